/- Law BoundGrows: its plain part. Law BoundGrows: its walk. The arguments of a law: an ability, opened as the form reads it. The law BoundGrows holds: at every input it returns true and leaves its arguments as they were. No condition. A region that draws its order, walked in the order of the text: a read may change places with a list written out behind it, too. No program in sight. Law BoundRounds: its plain part: a tree that stands two nodes further on costs what it cost. Law BoundRounds: the ability whose block stands in a repeat (within). Law BoundRounds: its walk. The law BoundRounds holds: at every input it returns true and leaves its arguments as they were. No condition. -/
import Derived.Test.YtggibiodeecljaaMBound
import Derived.Test.YtggibiodeecljaaMCopy
import Derived.SizedLaws
import Derived.Deep.Slices
import Derived.Lib.SmallJoins
import Derived.OpenShut
import Derived.ChangeSlices
import Derived.Test.YtggibiodeecljaaRows
import Derived.WalkKit
import Derived.ProofKit
import Derived.ShutString
import Derived.ChangeOld
import Derived.Below
import Derived.Test.YtggibiodeecljaaSerial
import Derived.Deep.RegionHeld
namespace Go.Proofs.Ytggibiodeecljaa
open Go.RowKit

theorem ableGas_range {on : Int} {slots : List Int} {when_ : Bool} {ts : List Node} (h : checkAble on slots when_ ts = true) {c : Int} (hc : 1 ≤ c) : 1 ≤ ableGas when_ ts c ∧ ableGas when_ ts c ≤ maxB := by
  obtain ⟨hl, hp, m, hm, hml, he, hfit, hwt, hm0⟩ := able_whole h
  have one : IsGas 1 := by unfold IsGas maxB; omega
  cases when_ with
  | true =>
    obtain ⟨hbm, hfit0⟩ := hwt rfl
    have g0 := gasM_gas ts c (by omega) _ _ hfit0
    have g1 := gasM_gas ts c (by omega) _ _ (hfit.le (by omega) : Fit ts ts.length m)
    unfold ableGas
    rw [if_pos rfl, hbm, Int.toNat_natCast]
    have a1 := gadd_gas one one.1
    have a2 := gadd_gas a1 g0.1
    have a3 := gadd_gas a2 g1.1
    have b1 := gadd_ge one one.1
    have b2 := gadd_ge a1 g0.1
    have b3 := gadd_ge a2 g1.1
    exact ⟨by omega, a3.2⟩
  | false =>
    have hm0 := hm0 rfl
    subst hm0
    have g0 := gasM_gas ts c (by omega) _ _ (hfit.le (by omega) : Fit ts ts.length 0)
    unfold ableGas
    rw [if_neg (by decide)]
    exact ⟨gadd_ge one g0.1, (gadd_gas one g0.1).2⟩

theorem ableGas_mono {on : Int} {slots : List Int} {when_ : Bool} {ts : List Node} (h : checkAble on slots when_ ts = true) {c c' : Int} (hc : 1 ≤ c) (hcc : c ≤ c') : ableGas when_ ts c ≤ ableGas when_ ts c' := by
  obtain ⟨hl, hp, m, hm, hml, he, hfit, hwt, hm0⟩ := able_whole h
  have one : IsGas 1 := by unfold IsGas maxB; omega
  cases when_ with
  | true =>
    obtain ⟨hbm, hfit0⟩ := hwt rfl
    have hfit1 : Fit ts ts.length m := hfit.le (by omega)
    have g0 := gasM_gas ts c (by omega) _ _ hfit0
    have g0' := gasM_gas ts c' (by omega) _ _ hfit0
    have g1' := gasM_gas ts c' (by omega) _ _ hfit1
    have m0 := gasM_mono ts (by omega : 0 ≤ c) hcc _ _ hfit0
    have m1 := gasM_mono ts (by omega : 0 ≤ c) hcc _ _ hfit1
    unfold ableGas
    rw [if_pos rfl, if_pos rfl, hbm, Int.toNat_natCast]
    exact gadd_mono (gadd_mono (Int.le_refl _) m0 (gadd_gas one one.1) g0'.1) m1 (gadd_gas (gadd_gas one one.1) g0'.1) g1'.1
  | false =>
    have hm0 := hm0 rfl
    subst hm0
    have hfit1 : Fit ts ts.length 0 := hfit.le (by omega)
    have g0' := gasM_gas ts c' (by omega) _ _ hfit1
    have m0 := gasM_mono ts (by omega : 0 ≤ c) hcc _ _ hfit1
    unfold ableGas
    rw [if_neg (by decide), if_neg (by decide)]
    exact gadd_mono (Int.le_refl _) m0 one g0'.1

/-- What the law looks at. -/
theorem grows_plain (on : Int) (slots : List Int) (when_ : Bool) (ts : List Node) (c c' : Int) :
    (boundM on slots when_ ts c = (0, 1) ∧ boundM on slots when_ ts c' = (0, 1)) ∨ (boundM on slots when_ ts c = (0, 1) ∧ ∃ a, boundM on slots when_ ts c' = (a, 0)) ∨ (boundM on slots when_ ts c' = (0, 1) ∧ ∃ a, boundM on slots when_ ts c = (a, 0)) ∨
    ∃ a a', boundM on slots when_ ts c = (a, 0) ∧ boundM on slots when_ ts c' = (a', 0) ∧ 1 ≤ a ∧ 1 ≤ a' ∧ a ≤ 4611686018427387904 ∧ a' ≤ 4611686018427387904 ∧ (c ≤ c' → a ≤ a') ∧ (c' ≤ c → a' ≤ a) := by
  unfold boundM
  by_cases h1 : checkAble on slots when_ ts = true ∧ 1 ≤ c ∧ c ≤ 256
  · by_cases h2 : checkAble on slots when_ ts = true ∧ 1 ≤ c' ∧ c' ≤ 256
    · rw [if_pos h1, if_pos h2]
      have r1 := ableGas_range h1.1 h1.2.1
      have r2 := ableGas_range h1.1 h2.2.1
      exact .inr (.inr (.inr ⟨_, _, rfl, rfl, r1.1, r2.1, r1.2, r2.2, fun h => ableGas_mono h1.1 h1.2.1 h, fun h => ableGas_mono h1.1 h2.2.1 h⟩))
    · rw [if_pos h1, if_neg h2]
      exact .inr (.inr (.inl ⟨rfl, _, rfl⟩))
  · by_cases h2 : checkAble on slots when_ ts = true ∧ 1 ≤ c' ∧ c' ≤ 256
    · rw [if_neg h1, if_pos h2]
      exact .inr (.inl ⟨rfl, _, rfl⟩)
    · rw [if_neg h1, if_neg h2]
      exact .inl ⟨rfl, rfl⟩
end Go.Proofs.Ytggibiodeecljaa
namespace Go.Proofs.Ytggibiodeecljaa
open Go.RowKit
set_option linter.unusedVariables false

set_option maxRecDepth 100000 in
set_option maxHeartbeats 2000000 in
theorem grows_any (on : Int) (SA TA : Option Addr) (slots : List Int) (sc tc : Nat) (when_ : Bool) (ts : List Node) (c c' : Int) (w : World) (hl : slots.length ≤ 281474976710656) (ht : ts.length ≤ 281474976710656) (hT : TreeAt w TA ts) (hS : SmallsAt w SA slots) (htx : ∀ x ∈ ts, x.text.size ≤ 4611686018427387904) :
    Calls Try.prog 6 #[.agg #[.int .i64 on, .slice SA slots.length sc, .bool when_, .slice TA ts.length tc], .int .i64 c, .int .i64 c'] w fun e w' => e = .returned (.bool true) ∧ Below w.heap.size w w' := by
  obtain ⟨W, hW⟩ : ∃ W, W = w.alloc (.cells #[.int .i64 on, .slice SA slots.length sc, .bool when_, .slice TA ts.length tc] 25) := ⟨_, rfl⟩
  have hBW : Below w.heap.size w W := by rw [hW]; exact (Below.refl _ _).alloc (Nat.le_refl _) _
  have hzW : w.heap.size < W.heap.size := by rw [hW]; simp
  have hb0 : Blk W w.heap.size 25 #[.int .i64 on, .slice SA slots.length sc, .bool when_, .slice TA ts.length tc] := by rw [hW]; exact Blk.new _ _ _
  have hsz := sizeAble_any on SA TA slots sc tc when_ ts W hl ht (hT.below hBW) htx
  have hR0 := sizeL_ge ts ts.length
  have hRt := sizeL_text ts ts.length (by omega)
  have hcp := fun (w' : World) (h1 : slots.length ≤ 16777216) (h2 : ts.length ≤ 16777216) (h : Below w.heap.size w w') => copyAble_any on SA TA slots sc tc when_ ts w' (by omega) (by omega) (hT.below h) (hS.below h)
  have hbd := fun (hx : ∀ x ∈ ts, x.text.size ≤ 1099511627776) (A B : Option Addr) (s t : Nat) (cards : Int) (w' : World) (h1 : SmallsAt w' A slots) (h2 : TreeAt w' B ts) => bound_any on A B slots s t when_ ts cards w' h2 h1 hx
  have hpl := grows_plain on slots when_ ts c c'
  have hlives := lives_any
  obtain ⟨R, hR⟩ : ∃ R, R = sizeL ts ts.length := ⟨_, rfl⟩
  obtain ⟨n, hn⟩ : ∃ n, slots.length = n := ⟨_, rfl⟩
  obtain ⟨m, hm⟩ : ∃ m, ts.length = m := ⟨_, rfl⟩
  simp only [← hR] at hsz hRt hR0
  rw [hn] at hb0 hl hsz hW hcp ⊢
  rw [hm] at hb0 ht hsz hW hR0 hcp ⊢
  simp only [hn, hm] at hbd
  obtain ⟨B1, hB1⟩ : ∃ B1, boundM on slots when_ ts c = B1 := ⟨_, rfl⟩
  obtain ⟨B2, hB2⟩ : ∃ B2, boundM on slots when_ ts c' = B2 := ⟨_, rfl⟩
  rw [hB1, hB2] at hpl
  have hbd1 := fun hx A B s t w' h1 h2 => hbd hx A B s t c w' h1 h2
  have hbd2 := fun hx A B s t w' h1 h2 => hbd hx A B s t c' w' h1 h2
  simp only [hB1] at hbd1
  simp only [hB2] at hbd2
  have HW := Lib.hid hW
  have HSZ := Lib.hid hsz
  have HRT := Lib.hid hRt
  have HCP := Lib.hid hcp
  have HB1 := Lib.hid hbd1
  have HB2 := Lib.hid hbd2
  have HPL := Lib.hid hpl
  have HL := Lib.hid hlives
  have HBW := Lib.hid hBW
  have HK := Lib.hid hb0
  clear hW hsz hRt hcp hbd hbd1 hbd2 hpl hlives hBW hb0 hB1 hB2 hT hS htx hR hn hm
  go_enter Try.func6, Try.ntmps6
  go_wp2_with fail
  rw [← HW.out]
  refine HSZ.out.mono ?_
  rintro e w1 ⟨rfl, hbel1⟩
  have hz1 := hbel1.size
  have hlt1 : w.heap.size < w1.heap.size := by omega
  have k1 := HK.out.below hbel1 hzW
  have K1 := Lib.hid k1
  have BL1 := Lib.hid (HBW.out.trans (hbel1.mono (by omega)))
  have x0 := k1.cell 0
  have x1 := k1.cell 1
  have x2 := k1.cell 2
  have x3 := k1.cell 3
  clear k1 hbel1
  go_wp2_with fail
  refine (long_any _ _).mono ?_
  rintro e w1' ⟨rfl, rfl⟩
  by_cases hbig : 16777216 < (n : Int) + R
  · have hd : decide (16777216 < (n : Int) + R) = true := by simp [hbig]
    rw [hd]
    go_wp2_with fail
    go_ret
    exact ⟨rfl, BL1.out⟩
  have hd : decide (16777216 < (n : Int) + R) = false := by simp [hbig]
  rw [hd]
  clear hd
  have hxt : ∀ x ∈ ts, x.text.size ≤ 1099511627776 := fun x hx => by have := HRT.out (by omega) x hx; omega
  have HXT := Lib.hid hxt
  clear hxt
  go_wp2_with fail
  refine (HCP.out _ (by omega) (by omega) BL1.out).mono ?_
  rintro e w2 ⟨SA', TA', sc', tc', rfl, hS2, hT2, hbel2⟩
  have hz2 := hbel2.size
  have hlt2 : w.heap.size < w2.heap.size := by omega
  have k2 := K1.out.below hbel2 hlt1
  have K2 := Lib.hid k2
  have BL2 := Lib.hid (BL1.out.trans (hbel2.mono (by omega)))
  have HS2 := Lib.hid hS2
  have HT2 := Lib.hid hT2
  clear k2 hbel2 hS2 hT2 x0 x1 x2 x3
  go_wp2_with fail
  refine (HB1.out HXT.out SA' TA' sc' tc' _ HS2.out HT2.out).mono ?_
  rintro e w3 ⟨rfl, hbel3⟩
  have hz3 := hbel3.size
  have hlt3 : w.heap.size < w3.heap.size := by omega
  have k3 := K2.out.below hbel3 hlt2
  have K3 := Lib.hid k3
  have BL3 := Lib.hid (BL2.out.trans (hbel3.mono (by omega)))
  have x0 := k3.cell 0
  have x1 := k3.cell 1
  have x2 := k3.cell 2
  have x3 := k3.cell 3
  clear k3 hbel3
  go_wp2_with fail
  refine (HCP.out _ (by omega) (by omega) BL3.out).mono ?_
  rintro e w4 ⟨SA2, TA2, sc2, tc2, rfl, hS4, hT4, hbel4⟩
  have hz4 := hbel4.size
  have BL4 := Lib.hid (BL3.out.trans (hbel4.mono (by omega)))
  have HS4 := Lib.hid hS4
  have HT4 := Lib.hid hT4
  clear hbel4 hS4 hT4 x0 x1 x2 x3
  go_wp2_with fail
  refine (HB2.out HXT.out SA2 TA2 sc2 tc2 _ HS4.out HT4.out).mono ?_
  rintro e w5 ⟨rfl, hbel5⟩
  have hz5 := hbel5.size
  have BL5 := Lib.hid (BL4.out.trans (hbel5.mono (by omega)))
  clear hbel5
  rcases HPL.out with ⟨rfl, rfl⟩ | ⟨rfl, a, rfl⟩ | ⟨rfl, a, rfl⟩ | ⟨a, a', rfl, rfl, h1, h2, h3, h4, h5, h6⟩
  · go_wp2_with fail
    refine (HL.out _).mono ?_
    rintro e w6 ⟨rfl, hbel6⟩
    have BL6 := Lib.hid (BL5.out.trans (hbel6.mono (by omega)))
    clear hbel6
    go_wp2_with fail
    go_ret
    exact ⟨rfl, BL6.out⟩
  · go_wp2_with fail
    refine (HL.out _).mono ?_
    rintro e w6 ⟨rfl, hbel6⟩
    have BL6 := Lib.hid (BL5.out.trans (hbel6.mono (by omega)))
    clear hbel6
    go_wp2_with fail
    go_ret
    exact ⟨rfl, BL6.out⟩
  · go_wp2_with fail
    refine (HL.out _).mono ?_
    rintro e w6 ⟨rfl, hbel6⟩
    have BL6 := Lib.hid (BL5.out.trans (hbel6.mono (by omega)))
    clear hbel6
    go_wp2_with fail
    go_ret
    exact ⟨rfl, BL6.out⟩
  · by_cases q1 : c ≤ c'
    · by_cases q2 : c' ≤ c
      · have := h5 q1
        have := h6 q2
        clear h5 h6
        go_wp2_with fail
        all_goals refine (HL.out _).mono ?_
        all_goals rintro e w6 ⟨rfl, hbel6⟩
        all_goals have BL6 := Lib.hid (BL5.out.trans (hbel6.mono (by omega)))
        all_goals clear hbel6
        all_goals go_wp2_with fail
        all_goals go_ret
        all_goals exact ⟨rfl, BL6.out⟩
      · have := h5 q1
        clear h5 h6
        go_wp2_with fail
        all_goals refine (HL.out _).mono ?_
        all_goals rintro e w6 ⟨rfl, hbel6⟩
        all_goals have BL6 := Lib.hid (BL5.out.trans (hbel6.mono (by omega)))
        all_goals clear hbel6
        all_goals go_wp2_with fail
        all_goals go_ret
        all_goals exact ⟨rfl, BL6.out⟩
    · have := h6 (by omega)
      clear h5 h6
      go_wp2_with fail
      all_goals refine (HL.out _).mono ?_
      all_goals rintro e w6 ⟨rfl, hbel6⟩
      all_goals have BL6 := Lib.hid (BL5.out.trans (hbel6.mono (by omega)))
      all_goals clear hbel6
      all_goals go_wp2_with fail
      all_goals go_ret
      all_goals exact ⟨rfl, BL6.out⟩
end Go.Proofs.Ytggibiodeecljaa
namespace Go.Proofs.Ytggibiodeecljaa
open Go.ChangeShapes Go.WideShapes Go.ChangeAt Go.RowKit Go.Joins Go.Deep
set_option linter.unusedVariables false

theorem cells_i8 : Try.prog.cellsOf 40 = 1 := by kernel_rfl
theorem bytes_i8 : Try.prog.bytesOf 40 = 1 := by kernel_rfl
theorem cells_node : Try.prog.cellsOf 42 = 7 := by kernel_rfl
theorem bytes_node : Try.prog.bytesOf 42 = 56 := by kernel_rfl
theorem cells_able : Try.prog.cellsOf 25 = 4 := by kernel_rfl
theorem one_able : ∀ fs, Try.prog.underlying 25 = some (.struct fs) → oneCellFields Try.prog fs = true := by
  intro fs h
  rw [Try.underlying25] at h
  injection h with h
  injection h with h
  subst h
  kernel_rfl
theorem cells_i64 : Try.prog.cellsOf 2 = 1 := by kernel_rfl
theorem cells_int : Try.prog.cellsOf 3 = 1 := by kernel_rfl
theorem cells_str : Try.prog.cellsOf 9 = 1 := by kernel_rfl

section
variable {H : Type} {enc : TypeId × Value → H} {W : World} {sp : Nat → Bool} {fuel : Nat} {v : Value} {y : DataW H × List MemPlace}

theorem weightsAll_in {P : Program} {e : TypeId} : ∀ {l : List (DataW H)} {d : DataW H}, d ∈ l → ∀ n ∈ d.weights P e, n ∈ DataW.weightsAll P e l
  | d' :: r, d, hd, n, hn => by
    simp only [DataW.weightsAll, List.mem_append]
    rcases List.mem_cons.1 hd with rfl | h
    · exact Or.inl hn
    · exact Or.inr (weightsAll_in h n hn)

theorem cell_lt {a : Addr} {u : Value} (h : W.cell? a = some u) : a.block < W.heap.size :=
  World.cells?_block (cells?_one (base := 0) (Nat.zero_le _) h) (by decide)

theorem open_smalls (hf : DataW.trod enc Try.prog W 0 sp true fuel 22 [v] = some y) (hr : ∀ n ∈ y.1.weights Try.prog 22, n ≤ reachBytes) :
    ∃ A l c, v = .slice A (l : List Int).length c ∧ SmallsAt W A l ∧ l.length ≤ reachBytes := by
  rcases open_ints Try.underlying22 Try.underlying40 cells_i8 hf with ⟨hcs, hx⟩ | ⟨a, len, cap, zs, hcs, hb, hl, hm, hz, hx, hcell, hwz⟩
  · simp only [List.cons.injEq, and_true] at hcs
    subst hcs
    exact ⟨none, [], 0, rfl, fun k x hk => by simp at hk, by simp⟩
  · simp only [List.cons.injEq, and_true] at hcs
    subst hcs
    have hzl : len ≤ zs.length := by rw [hz]; split <;> omega
    have hlen : (zs.take len).length = len := by rw [List.length_take]; omega
    refine ⟨some a, zs.take len, cap, by rw [hlen], ?_, ?_⟩
    · intro k x hk
      rw [List.getElem?_take] at hk
      split at hk
      · rename_i hkl
        obtain ⟨b, off, rfl, hc⟩ := ints_at hcell (by omega)
        have h1 := hc k (by omega)
        rw [List.getD_eq_getElem?_getD, hk] at h1
        exact ⟨b, off, rfl, cell_lt h1, h1⟩
      · cases hk
    · have h1 := hr ((List.take len zs).length * 1 + (zs.drop len).length * 1) (by
        subst hx
        simp [DataW.weights, Try.underlying22, bytes_i8, lits])
      omega

theorem drop_take_one {cs : List Value} {k : Nat} {u : Value} (h : (cs.drop k).take 1 = [u]) : cs[k]? = some u := by
  have := congrArg (fun l => l[0]?) h
  simpa [List.getElem?_take, List.getElem?_drop] using this

instance : Inhabited Node := ⟨node0⟩

set_option maxRecDepth 100000 in
theorem open_node {cs : List Value} (hf : DataW.trod enc Try.prog W 0 sp true fuel 42 cs = some y) (hr : ∀ n ∈ y.1.weights Try.prog 42, n ≤ reachBytes) :
    ∃ x : Node, cs = x.cells ∧ x.text.size ≤ reachBytes := by
  obtain ⟨xs, n, _, rfl, hl, hlen, hfs⟩ := DataW.trod_struct Try.underlying42 hf
  have f0 : DataW.trod enc Try.prog W 0 sp true n 40 ((cs.drop 0).take (Try.prog.cellsOf 40)) = xs[0]? := hfs 0 _ rfl
  rw [cells_i8] at f0
  have f1 : DataW.trod enc Try.prog W 0 sp true n 40 ((cs.drop 1).take (Try.prog.cellsOf 40)) = xs[1]? := hfs 1 _ rfl
  rw [cells_i8] at f1
  have f2 : DataW.trod enc Try.prog W 0 sp true n 2 ((cs.drop 2).take (Try.prog.cellsOf 2)) = xs[2]? := hfs 2 _ rfl
  rw [cells_i64] at f2
  have f3 : DataW.trod enc Try.prog W 0 sp true n 2 ((cs.drop 3).take (Try.prog.cellsOf 2)) = xs[3]? := hfs 3 _ rfl
  rw [cells_i64] at f3
  have f4 : DataW.trod enc Try.prog W 0 sp true n 9 ((cs.drop 4).take (Try.prog.cellsOf 9)) = xs[4]? := hfs 4 _ rfl
  rw [cells_str] at f4
  have f5 : DataW.trod enc Try.prog W 0 sp true n 3 ((cs.drop 5).take (Try.prog.cellsOf 3)) = xs[5]? := hfs 5 _ rfl
  rw [cells_int] at f5
  have f6 : DataW.trod enc Try.prog W 0 sp true n 3 ((cs.drop 6).take (Try.prog.cellsOf 3)) = xs[6]? := hfs 6 _ rfl
  rw [cells_int] at f6
  have hlen7 : xs.length = 7 := hlen
  rw [List.getElem?_eq_getElem (by omega)] at f0 f1 f2 f3 f4 f5 f6
  obtain ⟨a0, e0, d0, w0⟩ := DataW.trod_int Try.underlying40 f0
  obtain ⟨a1, e1, d1, w1⟩ := DataW.trod_int Try.underlying40 f1
  obtain ⟨a2, e2, d2, w2⟩ := DataW.trod_int Try.underlying2 f2
  obtain ⟨a3, e3, d3, w3⟩ := DataW.trod_int Try.underlying2 f3
  obtain ⟨a4, e4, d4, w4⟩ := DataW.trod_string Try.underlying9 f4
  obtain ⟨a5, e5, d5, w5⟩ := DataW.trod_int Try.underlying3 f5
  obtain ⟨a6, e6, d6, w6⟩ := DataW.trod_int Try.underlying3 f6
  have hcs : cs.length = 7 := by rw [hl, cells_node]
  refine ⟨⟨a0, a1, a2, a3, a4, a5, a6⟩, ?_, ?_⟩
  · apply List.ext_getElem?
    intro k
    have g0 := drop_take_one e0
    have g1 := drop_take_one e1
    have g2 := drop_take_one e2
    have g3 := drop_take_one e3
    have g4 := drop_take_one e4
    have g5 := drop_take_one e5
    have g6 := drop_take_one e6
    by_cases hk : k < 7
    · have : k = 0 ∨ k = 1 ∨ k = 2 ∨ k = 3 ∨ k = 4 ∨ k = 5 ∨ k = 6 := by omega
      rcases this with rfl | rfl | rfl | rfl | rfl | rfl | rfl
      · rw [g0]; rfl
      · rw [g1]; rfl
      · rw [g2]; rfl
      · rw [g3]; rfl
      · rw [g4]; rfl
      · rw [g5]; rfl
      · rw [g6]; rfl
    · rw [List.getElem?_eq_none (by omega), List.getElem?_eq_none (by show 7 ≤ k; omega)]
  · have h1 := hr a4.data.toList.length (by
      show _ ∈ (DataW.agg (xs.map (·.1))).weights _ _
      rw [DataW.weights, Try.underlying42]
      refine DataW.weights_mem_each (j := 4) (t := 9) (d := .lit (.string a4.data.toList)) rfl ?_ _ (by simp [DataW.weights])
      rw [List.getElem?_map, List.getElem?_eq_getElem (by omega), Option.map_some, d4])
    rw [Array.length_toList] at h1
    exact h1

theorem open_nodes (hf : DataW.trod enc Try.prog W 0 sp true fuel 23 [v] = some y) (hr : ∀ n ∈ y.1.weights Try.prog 23, n ≤ reachBytes) :
    ∃ A ts c, v = .slice A (ts : List Node).length c ∧ TreeAt W A ts ∧ ts.length ≤ reachBytes ∧ ∀ x ∈ ts, x.text.size ≤ reachBytes := by
  rcases open_slice Try.underlying23 hf with ⟨hcs, hx⟩ | ⟨a, len, cap, m, n, D, Pl, hcs, hb, hl, hm, hmm, hx, hel⟩
  · simp only [List.cons.injEq, and_true] at hcs
    subst hcs
    exact ⟨none, [], 0, rfl, .inl rfl, by simp, fun x hx => by simp at hx⟩
  · simp only [List.cons.injEq, and_true] at hcs
    subst hcs
    have hlm : len ≤ m := by rw [hmm]; split <;> omega
    rw [cells_node] at hel
    have hw : (((List.range len).map D).length + ((List.range (m - len)).map fun j => D (len + j)).length) * 56 ≤ reachBytes ∧ ∀ i, i < len → ∀ k ∈ (D i).weights Try.prog 42, k ≤ reachBytes := by
      subst hx
      simp only [DataW.weights, Try.underlying23, bytes_node] at hr
      refine ⟨hr _ (List.mem_cons_self ..), fun i hi k hk => hr k (List.mem_cons_of_mem _ (List.mem_append_left _ (weightsAll_in (List.mem_map.2 ⟨i, List.mem_range.2 hi, rfl⟩) k hk)))⟩
    have hlr : len ≤ reachBytes := by
      have := hw.1
      simp only [List.length_map, List.length_range] at this
      omega
    obtain ⟨X, hX⟩ := choose_lt (n := len) (p := fun i (x : Node) => x.text.size ≤ reachBytes ∧ ∀ j u, x.cells[j]? = some u → W.cell? (a.add (i * 7 + j)) = some u) (fun i hi => by
      obtain ⟨cs', h1, h2⟩ := hel i (by omega)
      obtain ⟨x, hx1, hx2⟩ := open_node h2 (hw.2 i hi)
      obtain ⟨_, hcl, hcc⟩ := World.cells?_some h1
      refine ⟨x, hx2, fun j u hj => ?_⟩
      have hj7 : j < 7 := by
        have := (List.getElem?_eq_some_iff.1 hj).1
        simpa [Node.cells] using this
      have := hcc j hj7
      rw [add_add] at this
      rw [this, hx1]
      exact hj)
    refine ⟨some a, (List.range len).map X, cap, by simp, ?_, by simpa using hlr, ?_⟩
    · rcases Nat.eq_zero_or_pos len with h0 | h0
      · exact .inl (by rw [h0]; rfl)
      · have hfirst := (hX 0 h0).2 0 _ rfl
        obtain ⟨b, off, spot⟩ := a
        have hspot : spot = none := by simpa [Addr.add] using World.cell?_spot hfirst
        subst hspot
        refine .inr ⟨b, off, rfl, cell_lt hfirst, fun i x hx j u hj => ?_⟩
        rw [List.getElem?_map, Option.map_eq_some_iff] at hx
        obtain ⟨i', hi', rfl⟩ := hx
        obtain ⟨hi1, hi2⟩ := List.getElem?_eq_some_iff.1 hi'
        simp only [List.length_range] at hi1
        rw [List.getElem_range] at hi2
        subst hi2
        have := (hX i hi1).2 j u hj
        rw [add_plain] at this
        rw [← this, Nat.add_assoc]
    · intro x hx
      obtain ⟨i, hi, rfl⟩ := List.mem_map.1 hx
      exact (hX i (List.mem_range.1 hi)).1
end
end Go.Proofs.Ytggibiodeecljaa
namespace Go.Proofs.Ytggibiodeecljaa
open Go.ChangeShapes Go.WideShapes Go.ChangeAt Go.RowKit Go.Joins
set_option linter.unusedVariables false

theorem own_ : ownKnob Try.prog.godebug = none := by kernel_rfl
theorem laidOut_ : laidOutB Try.prog = true := by kernel_rfl

set_option maxRecDepth 100000 in
theorem open_able {H : Type} {enc : TypeId × Value → H} {W : World} {base : Nat} {v : Value} {d : DataW H} {p : List MemPlace} (hv : Value.okWide Try.prog W .any base 25 v) (h : DataW.Trod enc Try.prog W 0 (fun _ => true) true 25 v d p)
    (hr : ∀ n ∈ d.weights Try.prog 25, n ≤ reachBytes) :
    ∃ on SA slots sc when_ TA ts tc, v = .agg #[.int .i64 on, .slice SA (slots : List Int).length sc, .bool when_, .slice TA (ts : List Node).length tc] ∧ SmallsAt W SA slots ∧ TreeAt W TA ts ∧ slots.length ≤ reachBytes ∧ ts.length ≤ reachBytes ∧ ∀ x ∈ ts, x.text.size ≤ reachBytes := by
  obtain ⟨c0, c1, c2, c3, y0, y1, y2, y3, m, rfl, rfl, rfl, h0, h1, h2, h3⟩ := open_agg4 Try.underlying25 (by kernel_rfl) cells_able hv h
  have hr' := hr
  simp only [DataW.weights, Try.underlying25, DataW.weightsEach, List.mem_append, List.map_cons, List.map_nil] at hr'
  obtain ⟨on, e0, d0, w0⟩ := DataW.trod_int Try.underlying3 h0
  obtain ⟨SA, slots, sc, e1, hS, l1⟩ := open_smalls h1 (fun n hn => hr' n (.inr (.inl hn)))
  obtain ⟨wh, e2, d2⟩ := DataW.trod_bool Try.underlying4 h2
  obtain ⟨TA, ts, tc, e3, hT, l3, l4⟩ := open_nodes h3 (fun n hn => hr' n (.inr (.inr (.inr (.inl hn)))))
  simp only [List.cons.injEq, and_true] at e0 e2
  subst e0 e1 e2 e3
  exact ⟨on, SA, slots, sc, wh, TA, ts, tc, rfl, hS, hT, l1, l3, l4⟩

set_option maxRecDepth 100000 in
theorem growsLifted (os : Os) (started : os.Started) (H : Type) (enc : TypeId × Value → H) :
    ReturnsInHanded {} Try.checked os 6 .any (Rows.boundGrowsSpec.pre6 enc Try.prog Try.f6 Rows.boundGrowsRow.domain false) (Rows.boundGrowsSpec.post enc Try.prog Try.f6 false true false false) := by
  refine returnsInHanded_of_change_sized (C := Try.checked) own_ started (by kernel_rfl) Try.func6
    (ChangeSpec.witness6 (enc := enc) (C := Try.checked) false ⟨#[], #[.agg #[.int .i64 0, .slice none 0 0, .bool false, .slice none 0 0], .int .i64 0, .int .i64 0], []⟩ 8 (by kernel_rfl) (by kernel_rfl) (by kernel_rfl) (by kernel_rfl)) ?_
  intro W base args ds gs before hval0 hW hcnd hsz0 _
  have hval : ∀ (j : Nat) t v, Try.f6.params[j]? = some t → args[j]? = some v → Value.okWide Try.prog W .any base t v := hval0
  have hsz : (DataW.weightsEach Try.prog (Try.f6.params.toList ++ Rows.boundGrowsSpec.plain.varTypes Try.prog) (ds ++ gs)).all (· ≤ reachBytes) = true := hsz0
  have hW' := hW
  obtain ⟨p, q, hA0, hV, rfl, hfz, hnd⟩ := hW
  have hA : DataW.TrodAll enc Try.prog W 0 (fun _ => true) true Try.f6.params.toList args.toList ds p := hA0
  rw [Try.params6] at hA hval hsz
  obtain ⟨v0, vs0, d0, ds0, p0, q0, hargs, rfl, rfl, h0, r0⟩ := trodAll_cons hA
  obtain ⟨v1, vs1, d1, ds1, p1, q1, rfl, rfl, rfl, h1, r1⟩ := trodAll_cons r0
  obtain ⟨v2, vs2, d2, ds2, p2, q2, rfl, rfl, rfl, h2, r2⟩ := trodAll_cons r1
  obtain ⟨rfl, rfl, rfl⟩ := trodAll_nil r2
  obtain rfl : args = #[v0, v1, v2] := by cases args; simp_all
  obtain ⟨rfl, rfl⟩ := trodVars_none hV
  have k0 := h0
  have lt0 : ∀ x ∈ p0, x.block < W.heap.size := by obtain ⟨m, hm⟩ := k0; exact DataW.trod_lt m _ _ _ hm
  obtain ⟨on, SA, slots, sc, when_, TA, ts, tc, rfl, hS, hT, l1, l2, l3⟩ := open_able (hval 0 25 v0 rfl rfl) h0 (fun n hn => by
    have := List.all_eq_true.1 hsz n (DataW.weights_mem_each (j := 0) rfl rfl n hn)
    simpa using this)
  obtain ⟨a1, rfl, rfl, rfl, w1⟩ := open_int Try.underlying3 (hval 1 3 v1 rfl rfl) h1
  obtain ⟨a2, rfl, rfl, rfl, w2⟩ := open_int Try.underlying3 (hval 2 3 v2 rfl rfl) h2
  clear hA0 hval0 hsz hsz0
  have hR : reachBytes = 140737488351232 := rfl
  refine (grows_any on SA TA slots sc tc when_ ts a1 a2 W (by omega) (by omega) hT hS (fun x hx => by have := l3 x hx; omega)).mono fun e W' ⟨he, bel⟩ => ?_
  subst he
  exact ⟨_, rfl, _, _, _, [], _, [], hW', trodAll_mk1 (shut_bool Try.underlying4 _), (trodAll_cons_mk (Below.trod laidOut_ (by kernel_rfl) (of_decide_eq_true (by kernel_rfl)) k0 bel lt0) (trodAll_cons_mk (shut_int Try.underlying3 w1) (trodAll_cons_mk (shut_int Try.underlying3 w2) trodAll_mk0))), rfl, bel.frame _, fun h => by cases h⟩

/-- The law BoundGrows holds. -/
theorem boundGrows_holds : Rows.BoundGrowsSaid :=
  OpenClaim.holds_of_wide 6 Try.f6 rfl rfl rfl rfl rfl rfl rfl ⟨rfl, rfl, rfl, rfl, rfl⟩ rfl rfl rfl rfl rfl (by kernel_rfl) Try.func6 (by kernel_rfl)
    (of_decide_eq_true (by kernel_rfl)) (by unfold Func.isWrapper; first | (rw [if_pos (by decide +kernel)]; kernel_rfl) | (rw [if_neg (by decide +kernel)]; exact ⟨rfl, rfl⟩))
    (fun os started H enc _ => growsLifted os started H enc)
end Go.Proofs.Ytggibiodeecljaa
namespace Go.Proofs.Ytggibiodeecljaa
open Go.RowKit

/-- It leaves the world as it is, and with a block more it yields the same. -/
def UpS {α : Type} (P : Program) (s : Sem α) : Prop := ∀ w v w', s.run P w = .ok v w' → w' = w ∧ ∀ o, s.run P (w.alloc o) = .ok v (w.alloc o)
/-- It makes a block, and turns nothing else. -/
def NewS {α : Type} (P : Program) (s : Sem α) : Prop := ∀ w v w', s.run P w = .ok v w' → ∃ o, w' = w.alloc o

section
variable {α β : Type} {P : Program}
theorem StillS.up {s : Sem α} (h : StillS P s) : UpS P s := fun w v w' hh => by
  obtain ⟨h1, h2⟩ := h w v w' hh
  exact ⟨h1, fun o => h2 _⟩
theorem UpS.bind {s : Sem α} {f : α → Sem β} (hs : UpS P s) (hf : ∀ x, UpS P (f x)) : UpS P (s >>= f) := fun w v w' h => by
  rw [Sem.run_bind] at h
  cases h1 : s.run P w with
  | halt x y => rw [h1] at h; simp [Result.andThen] at h
  | ok x y =>
    rw [h1] at h
    simp only [Result.andThen_ok] at h
    obtain ⟨rfl, h2⟩ := hs w x y h1
    obtain ⟨rfl, h3⟩ := hf x _ v w' h
    exact ⟨rfl, fun o => by rw [Sem.run_bind, h2 o, Result.andThen_ok, h3 o]⟩
theorem heap_up {w : World} {i : Nat} {x : Obj} (h : w.heap[i]? = some x) (o : Obj) : (w.alloc o).heap[i]? = some x :=
  (Below.heap_alloc w o i (Array.getElem?_eq_some_iff.1 h).1).trans h
theorem seen_up {w : World} {p : Program} {at_ : Addr} {u : TypeId} {k : Addr} {m : Bool} {r} (h : w.seen p at_ u k m = .ok r) (o : Obj) : (w.alloc o).seen p at_ u k m = .ok r := by
  by_cases hb : at_.block < w.heap.size
  · have e : (w.alloc o).heap[at_.block]? = w.heap[at_.block]? := Below.heap_alloc w o _ hb
    unfold World.seen at h ⊢
    rw [e]
    exact h
  · exfalso
    have e : w.heap[at_.block]? = none := Array.getElem?_eq_none (by omega)
    unfold World.seen at h
    rw [e] at h
    simp only [bind, Except.bind] at h
    repeat' split at h
    all_goals first | (cases h; done) | skip
theorem farLoad_up {w : World} {p : Program} {a : Addr} {m : Bool} {r} (h : w.farLoad p a m = .ok r) (o : Obj) : (w.alloc o).cell? a = none ∧ (w.alloc o).farLoad p a m = .ok r := by
  unfold World.farLoad at h
  split at h
  · rename_i at_ u hv
    have hv2 := heap_up hv o
    refine ⟨by unfold World.cell?; rw [hv2], ?_⟩
    unfold World.farLoad
    rw [hv2]
    simp only
    split at h
    · rename_i r2 hr
      injection h with h
      subst h
      unfold World.viewLoad at hr ⊢
      simp only [bind, Except.bind] at hr ⊢
      split at hr
      · cases hr
      · rename_i x hx
        rw [seen_up hx o]
        simp only
        rw [hr]
    · cases h
  · cases h
theorem UpS.load (a : Addr) (m : Mode) : UpS P (Go.load a m) := by
  intro w v w' h
  unfold Go.load at h ⊢
  rw [Sem.run] at h
  cases hc : w.cell? a with
  | some x =>
    rw [hc] at h
    simp only [Sem.run] at h
    injection h with h1 h2
    subst h1 h2
    refine ⟨rfl, fun o => ?_⟩
    rw [Sem.run, World.cell?_alloc_some w a o (by rw [hc]; rfl), hc]
    rfl
  | none =>
    rw [hc] at h
    simp only at h
    split at h
    · rename_i x y hf
      simp only [Sem.run] at h
      injection h with h1 h2
      subst h1 h2
      refine ⟨rfl, fun o => ?_⟩
      obtain ⟨e1, e2⟩ := farLoad_up hf o
      rw [Sem.run, e1]
      simp only
      rw [e2]
      rfl
    · cases h
theorem UpS.cells (a : Addr) : ∀ (n i : Nat) (acc : Array Value), UpS P (loadCellsFrom a i n acc)
  | 0, _, _ => (StillS.pure _).up
  | n + 1, i, acc => .bind (.load _ _) fun v => UpS.cells a n (i + 1) (acc.push v)
theorem UpS.loadVar (t : TypeId) (a : Addr) : UpS P (Go.loadVar t a) := by
  unfold Go.loadVar
  refine .bind (StillS.isAgg t).up fun b => ?_
  split
  · exact .bind (StillS.sizeOf t).up fun _ => .bind (.cells a _ _ _) fun _ => (StillS.pure _).up
  · exact .load _ _
theorem NewS.bind {s : Sem α} {f : α → Sem β} (hs : StillS P s) (hf : ∀ x, NewS P (f x)) : NewS P (s >>= f) := fun w v w' h => by
  rw [Sem.run_bind] at h
  cases h1 : s.run P w with
  | halt x y => rw [h1] at h; simp [Result.andThen] at h
  | ok x y =>
    rw [h1] at h
    simp only [Result.andThen_ok] at h
    obtain ⟨rfl, _⟩ := hs w x y h1
    exact hf x _ v w' h
theorem NewS.after {s : Sem α} {f : α → Sem β} (hs : NewS P s) (hf : ∀ x, StillS P (f x)) : NewS P (s >>= f) := fun w v w' h => by
  rw [Sem.run_bind] at h
  cases h1 : s.run P w with
  | halt x y => rw [h1] at h; simp [Result.andThen] at h
  | ok x y =>
    rw [h1] at h
    simp only [Result.andThen_ok] at h
    obtain ⟨o, rfl⟩ := hs w x y h1
    obtain ⟨rfl, _⟩ := hf x _ v w' h
    exact ⟨o, rfl⟩
theorem NewS.halt (h : Halt) : NewS P (Sem.halt h : Sem α) := fun w v w' hh => by simp at hh
theorem NewS.row (e : TypeId) (cs : Array Value) : NewS P (newRow e cs) := by
  intro w v w' h
  unfold newRow newObj at h
  simp [Sem.run] at h
  exact ⟨_, h.2.symm⟩
theorem StillS.zeroValue (t : TypeId) : StillS P (Go.zeroValue t) := by
  unfold Go.zeroValue
  refine .bind (.typeInfo t) fun i => ?_
  split
  · exact .pure _
  · first | exact .halt _ | exact .stuck _ | exact .unsupported _
theorem NewS.buildSlice (t : TypeId) (len : Nat) (parts : Array (Nat × Value)) : NewS P (Instr.buildSlice t len parts) := by
  unfold Instr.buildSlice
  refine .bind (.underlying t) fun x => ?_
  split
  · rename_i elem
    refine .bind (.sizeOf _) fun size => ?_
    dsimp only
    have tail : ∀ zero : Array Value, NewS P (match Instr.fill (fun i => some (i * size, size)) ((Array.range (len * size)).map fun x => zero[x % zero.size]!) parts.toList with
        | some cells => do
          let a ← newRow elem cells
          pure (Value.slice (some a) len len)
        | x => stuck "buildSlice: a part of the wrong size") := by
      intro zero
      split
      · exact .after (.row _ _) fun _ => .pure _
      · exact .halt _
    split
    · refine .bind (.unsupported _) fun _ => ?_
      split
      · exact .bind (.pure _) tail
      · exact .bind (.zeroValue _) fun _ => .bind (.pure _) tail
    · split
      · exact .bind (.pure _) tail
      · exact .bind (.zeroValue _) fun _ => .bind (.pure _) tail
  · exact .halt _

def newOp : Op → Bool
  | .buildSlice .. => true
  | _ => false
/-- A read, and what it reads with a block more. -/
theorem readOp_up {o : Oper} (h : readOp P o.op = true) (ρ : Operand → Value) (w : World) (n : Next) (w' : World) (hr : (execOp ρ o).run P w = .ok n w') : ∀ ob, (execOp ρ o).run P (w.alloc ob) = .ok n (w.alloc ob) := by
  by_cases hp : pureOp P o.op = true
  · obtain ⟨v, h1, h2, h3⟩ := pureOp_still hp ρ w n w' hr
    intro ob
    rw [h3, h1]
  · cases hop : o.op <;> rw [hop] at h hp <;> first | (exact absurd h hp) | skip
    case load t x =>
      simp only [execOp, hop] at hr ⊢
      have hu : UpS P (Instr.loadAt t (ρ x) >>= fun v => Pure.pure (Next.value v)) := .bind (.bind (StillS.sureAddr _).up fun _ => .loadVar _ _) fun _ => (StillS.pure _).up
      exact (hu w n w' hr).2
theorem newOp_new {o : Oper} (h : newOp o.op = true) (ρ : Operand → Value) (w : World) (n : Next) (w' : World) (hr : (execOp ρ o).run P w = .ok n w') : (∃ v, n = .value v) ∧ ∃ ob, w' = w.alloc ob := by
  cases hop : o.op <;> rw [hop] at h <;> first | (cases h; done) | skip
  case buildSlice t len parts =>
    simp only [execOp, hop] at hr
    rw [Sem.run_bind] at hr
    cases h1 : (Instr.buildSlice t len (parts.map fun (i, x) => (i, ρ x))).run P w with
    | halt q y => rw [h1] at hr; simp [Result.andThen] at hr
    | ok q y =>
      rw [h1] at hr
      simp only [Result.andThen_ok, Sem.run_pure] at hr
      injection hr with h2 h3
      obtain ⟨ob, hob⟩ := NewS.buildSlice _ _ _ w q y h1
      exact ⟨⟨q, h2.symm⟩, ob, by rw [← h3, hob]⟩

variable {ops : Array Oper} {Q : Exit → Act → World → Prop} {K : Act → World → Prop}
def commC (P : Program) (ops : Array Oper) (x y : Oper) : Bool := commB P ops x y || (x.apart ops y && y.apart ops x && readOp P x.op && newOp y.op)

theorem newOp_step {i : Nat} {o : Oper} (hi : ops[i]? = some o) (hr : newOp o.op = true) {a : Act} {w : World} (h : wpOp P ops (Only Q) i K a w) :
    (∃ v ob, K (a.put o.dst v) (w.alloc ob) ∧ Region.wanted o (yielded ops a.tmps) = true ∧ (execOp a.eval o).run P w = .ok (.value v) (w.alloc ob)) ∨ (K (a.put o.dst undef) w ∧ Region.wanted o (yielded ops a.tmps) = false) := by
  unfold wpOp at h
  simp only [hi] at h
  split at h
  · rename_i hw
    rcases h with h | ⟨_, h⟩
    · unfold Oper.wp at h
      cases hrun : (execOp a.eval o).run P w with
      | halt x y => rw [hrun] at h; cases x <;> simp [Oper.upon, Only] at h
      | ok n y =>
        obtain ⟨⟨v, rfl⟩, ob, rfl⟩ := newOp_new hr _ _ _ _ hrun
        rw [hrun] at h
        exact .inl ⟨v, ob, h, hw, rfl⟩
    · exact absurd h Only.lets
  · rename_i hw
    exact .inr ⟨h, by simpa using hw⟩

theorem swapC {i j : Nat} {oi oj : Oper} (hi : ops[i]? = some oi) (hj : ops[j]? = some oj) (hc : commC P ops oi oj = true) (hsi : ∀ cs b, oi.op ≠ .select cs b) (hsj : ∀ cs b, oj.op ≠ .select cs b) {a : Act} {w : World}
    (h : wpOp P ops (Only Q) i (wpOp P ops (Only Q) j K) a w) : wpOp P ops (Only Q) j (wpOp P ops (Only Q) i K) a w := by
  simp only [commC, Bool.or_eq_true, Bool.and_eq_true] at hc
  rcases hc with hc | ⟨⟨⟨ha, hb⟩, hc1⟩, hc2⟩
  · exact swap hi hj hc hsi hsj h
  · obtain ⟨h1, h2, h3⟩ := Oper.apart_spec ha
    obtain ⟨v, hk, hv⟩ := readOp_step hi hc1 h
    rcases newOp_step hj hc2 hk with ⟨u, ob, hk2, hw2, hr2⟩ | ⟨hk2, hw2⟩
    · rw [wanted_put oj a oi.dst v h1] at hw2
      rw [execOp_put oj hsj a oi.dst v h1] at hr2
      unfold wpOp
      simp only [hj]
      rw [if_pos hw2]
      refine .inl ?_
      unfold Oper.wp
      rw [hr2]
      show wpOp P ops (Only Q) i K (a.put oj.dst u) (w.alloc ob)
      refine readOp_mk hi (v := v) ?_ ?_
      · rw [wanted_put oi a oj.dst u h3, execOp_put oi hsi a oj.dst u h3]
        rcases hv with ⟨g1, g2⟩ | g
        · exact .inl ⟨g1, readOp_up hc1 _ _ _ _ g2 ob⟩
        · exact .inr g
      · rw [← Act.put_comm a v u h2]
        exact hk2
    · rw [wanted_put oj a oi.dst v h1] at hw2
      unfold wpOp
      simp only [hj]
      rw [if_neg (by simp [hw2])]
      refine readOp_mk hi (v := v) ?_ ?_
      · rw [wanted_put oi a oj.dst undef h3, execOp_put oi hsi a oj.dst undef h3]
        exact hv
      · rw [← Act.put_comm a v undef h2]
        exact hk2

theorem wpSeq_frontC {i : Nat} {oi : Oper} (hi : ops[i]? = some oi) (hsel : ∀ (j : Nat) (o : Oper) cs b, ops[j]? = some o → o.op ≠ .select cs b) (post : List Nat) : ∀ (pre : List Nat) (a : Act) (w : World),
    (∀ k ∈ pre, ∃ ok, ops[k]? = some ok ∧ commC P ops ok oi = true) → wpSeq P ops Q K (pre ++ i :: post) a w → wpOp P ops (Only Q) i (wpSeq P ops Q K (pre ++ post)) a w
  | [], a, w, _, h => h
  | k :: pre, a, w, hp, h => by
    obtain ⟨ok, hk, hc⟩ := hp k (by simp)
    have h1 : wpOp P ops (Only Q) k (wpOp P ops (Only Q) i (wpSeq P ops Q K (pre ++ post))) a w :=
      wpOp_mono (fun a' w' hh => wpSeq_frontC hi hsel post pre a' w' (fun k' hk' => hp k' (by simp [hk'])) hh) h
    exact swapC hk hi hc (hsel k ok · · hk) (hsel i oi · · hi) h1

/-- The table B holds, of each operation, (some of) those that its edges put ahead of it; the others ahead of it in the text may change places with it. -/
def serialC (P : Program) (ops : Array Oper) (B : Array Nat) : Bool :=
  Region.noSelect ops && (List.range ops.size).all fun i => match ops[i]? with
    | none => true
    | some o => (o.after.all fun e => !Region.binds .any e || decide (e.on < i)) && (List.range i).all fun k =>
      if (B.getD i 0).testBit k then o.after.any fun e => Region.binds .any e && decide (e.on < i) && (e.on == k || (decide (k < e.on) && (B.getD e.on 0).testBit k))
      else match ops[k]? with | none => false | some ok => commC P ops ok o

theorem serialC_at {B : Array Nat} (hB : serialC P ops B = true) {i : Nat} {o : Oper} (hi : ops[i]? = some o) : (∀ e ∈ o.after, Region.binds .any e = true → e.on < i) ∧ ∀ k, k < i →
    ((B.getD i 0).testBit k = true ∧ ∃ e ∈ o.after, Region.binds .any e = true ∧ e.on < i ∧ (e.on = k ∨ (k < e.on ∧ (B.getD e.on 0).testBit k = true))) ∨ ((B.getD i 0).testBit k = false ∧ ∃ ok, ops[k]? = some ok ∧ commC P ops ok o = true) := by
  have hlt := (Array.getElem?_eq_some_iff.1 hi).1
  simp only [serialC, Bool.and_eq_true, List.all_eq_true, List.mem_range] at hB
  have h := hB.2 i hlt
  rw [hi] at h
  simp only [Bool.and_eq_true, List.all_eq_true, List.mem_range, Array.all_eq_true_iff_forall_mem] at h
  refine ⟨fun e he hb => by have := h.1 e he; simpa [hb] using this, fun k hk => ?_⟩
  have h2 := h.2 k hk
  split at h2
  · rename_i hb
    rw [Array.any_eq_true'] at h2
    obtain ⟨e, he, h3⟩ := h2
    simp only [Bool.and_eq_true, Bool.or_eq_true, decide_eq_true_eq, beq_iff_eq] at h3
    exact .inl ⟨hb, e, he, h3.1.1, h3.1.2, h3.2⟩
  · rename_i hb
    cases hk2 : ops[k]? with
    | none => rw [hk2] at h2; cases h2
    | some ok => rw [hk2] at h2; exact .inr ⟨by simpa using hb, ok, rfl, h2⟩

theorem ahead_listedC {B : Array Nat} (hB : serialC P ops B = true) {listed : Array Bool} (hd : Down ops listed) : ∀ (n i : Nat) (o : Oper), i ≤ n → ops[i]? = some o → (∀ e ∈ o.after, Region.binds .any e = true → listed.getD e.on false = true) →
    ∀ k, k < i → (B.getD i 0).testBit k = true → listed.getD k false = true
  | 0, i, o, hn, _, _, k, hk, _ => by omega
  | n + 1, i, o, hn, hi, hall, k, hk, hb => by
    rcases (serialC_at hB hi).2 k hk with ⟨_, e, he, hbi, hlt, h⟩ | ⟨hf, _⟩
    · rcases h with rfl | ⟨hk2, hb2⟩
      · exact hall e he hbi
      · have hon : ∃ o2, ops[e.on]? = some o2 := ⟨_, Array.getElem?_eq_getElem (by have := (Array.getElem?_eq_some_iff.1 hi).1; omega)⟩
        obtain ⟨o2, ho2⟩ := hon
        exact ahead_listedC hB hd n e.on o2 (by omega) ho2 (hd e.on o2 ho2 (hall e he hbi)) k hk2 hb2
    · rw [hb] at hf; cases hf

theorem serial_anyC {B : Array Nat} (hB : serialC P ops B = true) : ∀ (fuel : Nat) (listed : Array Bool) (a : Act) (w : World), Down ops listed → listed.size = ops.size → (left ops listed).length = fuel →
    wpSeq P ops Q (Q .normal) (left ops listed) a w → wpAny P .any ops (Only Q) fuel listed a w := by
  have hsel : ∀ (j : Nat) (o : Oper) cs b, ops[j]? = some o → o.op ≠ .select cs b := by
    intro j o cs b ho
    have : Region.noSelect ops = true := by simp only [serialC, Bool.and_eq_true] at hB; exact hB.1
    exact Region.noSelect_spec this j o cs b ho
  have hready : ∀ (listed : Array Bool), Down ops listed → listed.size = ops.size → ∀ i r, left ops listed = i :: r → i ∈ Region.ready .any ops listed := by
    intro listed hd hs i r hl
    have hi : i ∈ left ops listed := by rw [hl]; simp
    have hmin := (left_set (ops := ops) hs (s := []) (t := r) hl)
    unfold left at hi
    rw [List.mem_filter, List.mem_range] at hi
    rw [mem_ready]
    obtain ⟨o, ho⟩ : ∃ o, ops[i]? = some o := ⟨_, Array.getElem?_eq_getElem hi.1⟩
    refine ⟨?_, o, ho, fun e he hb => ?_⟩
    · have h1 := hi.2
      rw [Array.getD_eq_getD_getElem?, Array.getElem?_eq_getElem (by omega)] at h1 ⊢
      simpa using h1
    · have hlt := (serialC_at hB ho).1 e he hb
      cases hc : listed.getD e.on false
      · have hm : e.on ∈ left ops listed := by
          unfold left
          rw [List.mem_filter, List.mem_range]
          exact ⟨by omega, by simp [hc]⟩
        have hp : (left ops listed).Pairwise (· < ·) := List.Pairwise.filter _ List.pairwise_lt_range
        rw [hl] at hm hp
        rw [List.pairwise_cons] at hp
        rcases List.mem_cons.1 hm with h | h
        · omega
        · have := hp.1 _ h; omega
      · rfl
  intro fuel
  induction fuel with
  | zero =>
    intro listed a w hd hs hl h
    have hnil := List.eq_nil_of_length_eq_zero hl
    rw [hnil] at h
    refine ⟨?_, h⟩
    cases hr : Region.ready .any ops listed with
    | nil => rfl
    | cons i r =>
      have hi : i ∈ Region.ready .any ops listed := by rw [hr]; simp
      rw [mem_ready] at hi
      obtain ⟨h0, o, ho, _⟩ := hi
      have hm : i ∈ left ops listed := by
        unfold left
        rw [List.mem_filter, List.mem_range]
        have hlt := (Array.getElem?_eq_some_iff.1 ho).1
        refine ⟨hlt, ?_⟩
        rw [Array.getD_eq_getD_getElem?, Array.getElem?_eq_getElem (by omega)] at h0 ⊢
        simpa using h0
      rw [hnil] at hm
      cases hm
  | succ fuel ih =>
    intro listed a w hd hs hl h
    refine ⟨fun hr => ?_, fun i hi => ?_⟩
    · cases hl2 : left ops listed with
      | nil => rw [hl2] at hl; simp at hl
      | cons i r =>
        have := hready listed hd hs i r hl2
        rw [hr] at this
        cases this
    · rw [mem_ready] at hi
      obtain ⟨h0, o, ho, hall⟩ := hi
      have hlt := (Array.getElem?_eq_some_iff.1 ho).1
      have hm : i ∈ left ops listed := by
        unfold left
        rw [List.mem_filter, List.mem_range]
        refine ⟨hlt, ?_⟩
        rw [Array.getD_eq_getD_getElem?, Array.getElem?_eq_getElem (by omega)] at h0 ⊢
        simpa using h0
      obtain ⟨s, t, hst⟩ := List.append_of_mem hm
      obtain ⟨hset, hbefore⟩ := left_set (ops := ops) hs hst
      rw [hst] at h
      have hf := wpSeq_frontC ho hsel t s a w (fun k hk => by
        have hki := hbefore k hk
        have hkl : listed.getD k false = false := by
          have : k ∈ left ops listed := by rw [hst]; simp [hk]
          unfold left at this
          rw [List.mem_filter] at this
          simpa using this.2
        rcases (serialC_at hB ho).2 k hki with ⟨hb, _⟩ | ⟨_, h⟩
        · have := ahead_listedC hB hd i i o (Nat.le_refl _) ho hall k hki hb
          rw [hkl] at this
          cases this
        · exact h) h
      refine wpOp_mono (fun a' w' hh => ih _ a' w' ?_ (by simpa using hs) ?_ (by rw [hset]; exact hh)) hf
      · intro j oj hj hlj e he hb
        by_cases hji : i = j
        · subst hji
          rw [ho] at hj
          injection hj with hj
          subst hj
          exact getD_set_true (hall e he hb)
        · rw [getD_set_ne false hji] at hlj
          exact getD_set_true (hd j oj hj hlj e he hb)
      · rw [hset]
        rw [hst] at hl
        simp at hl ⊢
        omega

/-- THE WALK IN THE ORDER OF THE TEXT SERVES EVERY ORDER. -/
theorem wp_region_serialC {id : Nat} {l : List Oper} {a : Act} {w : World} (B : Array Nat) (hm : P.follows .mixedOrders = true) (hB : serialC P l.toArray B = true)
    (h : wpList P l.toArray (Only Q) l a w.drew) : (Code.region id l.toArray true).wp P Q a w := by
  refine Code.wp_mono Only.imp (wp_region_any hm ?_)
  have hleft : left l.toArray (Array.replicate l.toArray.size false) = List.range l.length := by
    unfold left
    rw [List.filter_eq_self.2 fun k hk => by simp [Array.getD_eq_getD_getElem?, Array.getElem?_replicate]; split <;> simp]
    simp
  refine serial_anyC hB _ _ _ _ ?_ (by simp) (by rw [hleft]; simp) ?_
  · intro i o ho hl
    simp [Array.getD_eq_getD_getElem?, Array.getElem?_replicate] at hl
    split at hl <;> simp at hl
  · rw [hleft, List.range_eq_range']
    exact wpSeq_list l 0 a _ (fun j => by simp) h

theorem wp_region_text2 {id : Nat} {l : List Oper} {a : Act} {w : World} (hm : P.follows .mixedOrders = true) (hB : serialC P l.toArray (Region.before l.toArray) = true)
    (h : wpList P l.toArray (Only Q) l a w.drew) : (Code.region id l.toArray true).wp P Q a w := wp_region_serialC _ hm hB h
end
end Go.Proofs.Ytggibiodeecljaa
namespace Go.Proofs.Ytggibiodeecljaa
open Go.RowKit

theorem adv_mono {S S' : List (Option Nat)} (h : ∀ i z : Nat, S[i]? = some (some z) → S'[i]? = some (some z)) : ∀ c p q, adv S c p = some q → adv S' c p = some q
  | 0, p, q, hq => hq
  | c + 1, p, q, hq => by
    simp only [adv] at hq ⊢
    rcases hz : S[p]? with _ | _ | z <;> rw [hz] at hq <;> simp only at hq
    · cases hq
    · cases hq
    · rw [h p z hz]
      exact adv_mono h c _ q hq

section
variable {g : Node → Node} (hg : ∀ x, (g x).kids = x.kids)
include hg
theorem sizes_mono {len len' : Nat} (hl : len ≤ len') : ∀ (l : List Node) (i z : Nat), (sizes len l)[i]? = some (some z) → (sizes len' (l.map g))[i]? = some (some z)
  | [], i, z, h => by simp [sizes] at h
  | x :: r, 0, z, h => by
    simp only [sizes, List.getElem?_cons_zero, Option.some.injEq, List.map_cons, hg] at h ⊢
    split at h
    · cases h
    · rename_i hk
      rw [if_neg (by omega)]
      rw [Option.map_eq_some_iff] at h ⊢
      obtain ⟨q, hq, rfl⟩ := h
      exact ⟨q, adv_mono (fun i z hz => sizes_mono hl r i z hz) _ _ _ hq, rfl⟩
  | x :: r, i + 1, z, h => by
    simp only [sizes, List.getElem?_cons_succ, List.map_cons] at h ⊢
    exact sizes_mono hl r i z h

theorem behind_two (n0 n1 : Node) {ts : List Node} {i : Nat} (h : 0 ≤ behind ts i) : behind (n0 :: n1 :: ts.map g) (i + 2) = behind ts i + 2 := by
  rw [behind_eq] at h ⊢
  rcases hz : (sizes ts.length ts)[i]? with _ | _ | z <;> rw [hz] at h <;> simp only at h
  · omega
  · omega
  · have h2 := sizes_mono hg (show ts.length ≤ (n0 :: n1 :: ts.map g).length by simp; omega) ts i z hz
    have e : (sizes (n0 :: n1 :: ts.map g).length (n0 :: n1 :: ts.map g))[i + 2]? = some (some z) := by
      simp only [sizes, List.getElem?_cons_succ]
      exact h2
    rw [e, behind_eq, hz]
    simp only
    omega

theorem kidsFrom_two (n0 n1 : Node) {ts : List Node} : ∀ c p q, adv (sizes ts.length ts) c p = some q → kidsFrom (n0 :: n1 :: ts.map g) c (p + 2) = (kidsFrom ts c p).map (· + 2)
  | 0, p, q, _ => rfl
  | c + 1, p, q, h => by
    simp only [adv] at h
    rcases hz : (sizes ts.length ts)[p]? with _ | _ | z <;> rw [hz] at h <;> simp only at h
    · cases h
    · cases h
    · have hb : behind ts p = (p : Int) + z := by rw [behind_eq, hz]
      have hb2 := behind_two hg n0 n1 (ts := ts) (i := p) (by omega)
      simp only [kidsFrom, List.map_cons]
      rw [hb2, hb, show ((p : Int) + z + 2).toNat = (p + z) + 2 by omega, show ((p : Int) + z).toNat = p + z by omega, kidsFrom_two n0 n1 c _ q h]

theorem kidsOf_two (n0 n1 : Node) {ts : List Node} {i : Nat} (h : 0 ≤ behind ts i) : kidsOf (n0 :: n1 :: ts.map g) (i + 2) = (kidsOf ts i).map (· + 2) := by
  have hb2 := behind_two hg n0 n1 h
  have hi : i < ts.length := by
    unfold behind at h
    split at h
    · assumption
    · omega
  have hx : ts[i]? = some (ts.getD i node0) := by rw [List.getD_eq_getElem?_getD, List.getElem?_eq_getElem hi]; rfl
  unfold kidsOf
  rw [if_neg (by omega), if_neg (by omega)]
  have e : ((n0 :: n1 :: ts.map g).getD (i + 2) node0).kids = (ts.getD i node0).kids := by
    rw [List.getD_eq_getElem?_getD, List.getElem?_cons_succ, List.getElem?_cons_succ, List.getElem?_map, hx]
    exact hg _
  rw [e]
  rw [behind_eq] at h
  rcases hz : (sizes ts.length ts)[i]? with _ | _ | z <;> rw [hz] at h <;> simp only at h
  · omega
  · omega
  · exact kidsFrom_two hg n0 n1 _ (i + 1) _ (size_kids hx hz).2.2

theorem gasM_two (hgas : ∀ x l c, gasF (g x) l c = gasF x l c) (n0 n1 : Node) {ts : List Node} (c : Int) : ∀ f i, 0 ≤ behind ts i → gasM (n0 :: n1 :: ts.map g) c f (i + 2) = gasM ts c f i
  | 0, _, _ => rfl
  | f + 1, i, h => by
    have hi : i < ts.length := by
      unfold behind at h
      split at h
      · assumption
      · omega
    have hx : ts[i]? = some (ts.getD i node0) := by rw [List.getD_eq_getElem?_getD, List.getElem?_eq_getElem hi]; rfl
    rw [gasM, gasM, kidsOf_two hg n0 n1 h, List.map_map]
    have e : (n0 :: n1 :: ts.map g).getD (i + 2) node0 = g (ts.getD i node0) := by
      rw [List.getD_eq_getElem?_getD, List.getElem?_cons_succ, List.getElem?_cons_succ, List.getElem?_map, hx]
      rfl
    rw [e, hgas]
    congr 1
    refine List.map_congr_left fun k hk => ?_
    exact gasM_two hgas n0 n1 c f k (kidsOf_ok hk).2.2.1
end

theorem one_kid (n : Node) (r : List Node) (hk : n.kids = 1) {L : Nat} (hL : 1 ≤ L) {z : Nat} (h : (sizes L r)[0]? = some (some z)) : (sizes L (n :: r))[0]? = some (some (z + 1)) := by
  simp only [sizes, List.getElem?_cons_zero, hk]
  rw [if_neg (by omega)]
  simp [adv, h]

/-- The law's own ability: what stands in its tree. -/

def shiftN (x : Node) : Node :=
  if x.op = 11 ∨ x.op = 12 ∨ x.op = 33 ∨ x.op = 16 then (if 2 ≤ x.n then { x with n := wrap64 (x.n + 1) } else x)
  else if x.op = 14 then { x with m := wrap64 (x.m + 1) }
  else if x.op = 15 then { x with n := wrap64 (x.n + 1), m := wrap64 (x.m + 1) }
  else x
theorem shiftN_kids (x : Node) : (shiftN x).kids = x.kids := by
  unfold shiftN
  repeat' split
  all_goals rfl
theorem shiftN_text (x : Node) : (shiftN x).text = x.text := by
  unfold shiftN
  repeat' split
  all_goals rfl
theorem shiftN_gas (x : Node) (l : List Int) (c : Int) : gasF (shiftN x) l c = gasF x l c := by
  have hop : (shiftN x).op = x.op := by
    unfold shiftN
    repeat' split
    all_goals rfl
  have hn : x.op = 14 ∨ x.op = 49 ∨ x.op = 50 ∨ x.op = 19 → (shiftN x).n = x.n := by
    intro h
    unfold shiftN
    rw [if_neg (by omega)]
    split
    · rfl
    · rw [if_neg (by omega)]
  unfold gasF
  simp only [hop]
  split
  · rfl
  split
  · rfl
  split
  · rfl
  split
  · rename_i q; rw [hn (.inl q)]
  split
  · rfl
  split
  · rename_i q; rw [hn (.inr (.inl q))]
  split
  · rename_i q; rw [hn (.inr (.inr (.inl q)))]
  split
  · rename_i q; rw [hn (.inr (.inr (.inr q)))]
  rfl

def rootN : Node := ⟨10, 0, 0, 0, ByteArray.empty, 0, 1⟩
def timesN (n : Int) : Node := ⟨14, 0, n, 2, ByteArray.empty, 0, 1⟩
def withinT (ts : List Node) (n : Int) : List Node := rootN :: timesN n :: ts.map shiftN
def withinS (slots : List Int) : List Int := 3 :: 4 :: 1 :: slots.drop 2

theorem within_gas (ts : List Node) (n c : Int) (h : 0 ≤ behind ts 0) : gasM (withinT ts n) c (withinT ts n).length 0 = gasF rootN [gasF (timesN n) [gasM ts c ts.length 0] c] c := by
  have e2 : behind (withinT ts n) 2 = behind ts 0 + 2 := behind_two shiftN_kids rootN (timesN n) h
  have g2 : gasM (withinT ts n) c ts.length 2 = gasM ts c ts.length 0 := gasM_two shiftN_kids shiftN_gas rootN (timesN n) c ts.length 0 h
  have hL : (withinT ts n).length = ts.length + 1 + 1 := by simp [withinT]
  obtain ⟨z, hz⟩ : ∃ z, (sizes (withinT ts n).length (ts.map shiftN))[0]? = some (some z) := by
    rw [behind_eq] at e2
    have e : (sizes (withinT ts n).length (withinT ts n))[2]? = (sizes (withinT ts n).length (ts.map shiftN))[0]? := by
      simp only [withinT, sizes, List.getElem?_cons_succ]
    rw [e] at e2
    rcases hz : (sizes (withinT ts n).length (ts.map shiftN))[0]? with _ | _ | z <;> rw [hz] at e2 <;> simp only at e2
    · omega
    · omega
    · exact ⟨z, rfl⟩
  have s1 := one_kid (timesN n) (ts.map shiftN) rfl (L := (withinT ts n).length) (by omega) hz
  have s0 := one_kid rootN (timesN n :: ts.map shiftN) rfl (L := (withinT ts n).length) (by omega) s1
  have b0 : behind (withinT ts n) 0 = ((z + 1 + 1 : Nat) : Int) := by
    have e : (sizes (withinT ts n).length (withinT ts n))[0]? = (sizes (withinT ts n).length (rootN :: timesN n :: ts.map shiftN))[0]? := rfl
    rw [behind_eq, e, s0]
    simp
  have b1 : behind (withinT ts n) 1 = ((z + 1 + 1 : Nat) : Int) := by
    rw [behind_eq]
    have e : (sizes (withinT ts n).length (withinT ts n))[1]? = (sizes (withinT ts n).length (timesN n :: ts.map shiftN))[0]? := rfl
    rw [e, s1]
    simp
    omega
  have k0 : kidsOf (withinT ts n) 0 = [1] := by
    unfold kidsOf
    rw [b0, if_neg (by omega)]
    rfl
  have k1 : kidsOf (withinT ts n) 1 = [2] := by
    unfold kidsOf
    rw [b1, if_neg (by omega)]
    rfl
  rw [hL, gasM, k0, List.map_cons, List.map_nil, gasM, k1, List.map_cons, List.map_nil, g2]
  rfl

theorem rounds_plain (on : Int) (slots : List Int) (ts : List Node) (n c x : Int) (h0 : 0 ≤ n) (h1 : n ≤ 255) (h : boundM on slots false ts c = (x, 0)) :
    1 ≤ x ∧ x ≤ 4611686018427387904 ∧ (boundM on (withinS slots) false (withinT ts n) c = (0, 1) ∨ ∃ y, boundM on (withinS slots) false (withinT ts n) c = (y, 0) ∧ 0 ≤ y ∧ y ≤ 4611686018427387904 ∧ (1099511627776 < x → wrap64 (x * n) ≤ y ∨ y = 4611686018427387904) ∧
      (x ≤ 1099511627776 → y = 2 + 4 * (n + 1) + n * (x - 1 + 5) + 1)) := by
  unfold boundM at h
  split at h
  · rename_i hc
    obtain ⟨hck, hc1, hc2⟩ := hc
    injection h with hx _
    have r := ableGas_range hck hc1
    rw [hx] at r
    refine ⟨r.1, r.2, ?_⟩
    obtain ⟨hl, hp, m, hm, hml, he, hfit, hwt, hm0⟩ := able_whole hck
    have hm0 := hm0 rfl
    subst hm0
    have g0 := gasM_gas ts c (by omega) _ _ (hfit.le (by omega) : Fit ts ts.length 0)
    unfold boundM
    by_cases h2 : checkAble on (withinS slots) false (withinT ts n) = true ∧ 1 ≤ c ∧ c ≤ 256
    · rw [if_pos h2]
      refine .inr ⟨_, rfl, ?_⟩
      have r2 := ableGas_range h2.1 h2.2.1
      have hb : 0 ≤ behind ts 0 := by omega
      have e : ableGas false (withinT ts n) c = gadd 1 (gasF rootN [gasF (timesN n) [gasM ts c ts.length 0] c] c) := by
        unfold ableGas
        rw [if_neg (by decide), within_gas ts n c hb]
      rw [e] at r2 ⊢
      obtain ⟨g, hg⟩ : ∃ g, gasM ts c ts.length 0 = g := ⟨_, rfl⟩
      have ex : gadd 1 g = x := by
        rw [← hx, ← hg]
        unfold ableGas
        rw [if_neg (by decide)]
      rw [hg] at g0 r2 ⊢
      have e1 : gasF (timesN n) [g] c = gadd (gadd 2 (gtimes 4 (n + 1))) (gtimes (gadd g 5) n) := by
        unfold gasF timesN
        simp
      have e0 : ∀ a, gasF rootN [a] c = gadd 0 a := by
        intro a
        unfold gasF rootN
        simp
      rw [e0, e1] at r2 ⊢
      have M : maxB = 4611686018427387904 := rfl
      obtain ⟨g00, g01⟩ := g0
      have t1 : gtimes 4 (n + 1) = 4 * (n + 1) := by
        rw [gtimes_eq (by omega) (by omega)]
        omega
      have hg5 : gadd g 5 = min maxB (g + 5) := by unfold gadd; split <;> omega
      have hx5 : x = min maxB (1 + g) := by rw [← ex]; unfold gadd; split <;> omega
      obtain ⟨k, hk⟩ : ∃ k, k = min maxB (g + 5) * n := ⟨_, rfl⟩
      have k0 : 0 ≤ k := by rw [hk]; exact Int.mul_nonneg (by omega) h0
      have t2 : gtimes (gadd g 5) n = min maxB k := by
        rw [gtimes_eq (by rw [hg5]; omega) h0, hg5, hk]
      rw [t1, t2] at r2 ⊢
      have y1 : gadd 2 (4 * (n + 1)) = 2 + 4 * (n + 1) := by unfold gadd; split <;> omega
      rw [y1] at r2 ⊢
      obtain ⟨y, hy⟩ : ∃ y, gadd 1 (gadd 0 (gadd (2 + 4 * (n + 1)) (min maxB k))) = y := ⟨_, rfl⟩
      have y2 : y = min maxB (1 + min maxB (2 + 4 * (n + 1) + min maxB k)) := by
        rw [← hy]
        have z1 : gadd (2 + 4 * (n + 1)) (min maxB k) = min maxB (2 + 4 * (n + 1) + min maxB k) := by unfold gadd; split <;> omega
        rw [z1]
        obtain ⟨q, hq⟩ : ∃ q, min maxB (2 + 4 * (n + 1) + min maxB k) = q := ⟨_, rfl⟩
        have q0 : 0 ≤ q := by omega
        have q1 : q ≤ maxB := by omega
        rw [hq]
        have z2 : gadd 0 q = q := by unfold gadd; split <;> omega
        rw [z2]
        unfold gadd; split <;> omega
      rw [hy] at r2 ⊢
      refine ⟨by omega, by omega, fun hbig => ?_, fun hs => ?_⟩
      · by_cases hyM : y = maxB
        · exact .inr hyM
        · refine .inl ?_
          have hkk : x * n ≤ k := by
            rw [hk]
            exact Int.mul_le_mul_of_nonneg_right (by omega) h0
          have hxn : 0 ≤ x * n := Int.mul_nonneg (by omega) h0
          have : wrap64 (x * n) = x * n := by unfold wrap64; omega
          rw [this]
          omega
      · have e5 : min maxB (g + 5) = x - 1 + 5 := by omega
        rw [e5] at hk
        have : k ≤ (x - 1 + 5) * 255 := by rw [hk]; exact Int.mul_le_mul_of_nonneg_left h1 (by omega)
        rw [Int.mul_comm n (x - 1 + 5), ← hk]
        omega
    · rw [if_neg h2]
      exact .inl rfl
  · injection h with _ h
    cases h
end Go.Proofs.Ytggibiodeecljaa
namespace Go.Proofs.Ytggibiodeecljaa
open Go.RowKit
set_option linter.unusedVariables false

def smallVals (l : List Int) : List Value := l.map (Value.int .i8)
def nodeVals (ts : List Node) : List Value := ts.flatMap Node.cells
theorem nodeVals_snoc (ts : List Node) (x : Node) : nodeVals (ts ++ [x]) = nodeVals ts ++ x.cells := by simp [nodeVals]
theorem smallVals_snoc (l : List Int) (x : Int) : smallVals (l ++ [x]) = smallVals l ++ [.int .i8 x] := by simp [smallVals]
theorem take_drop_snoc {l : List Int} {k : Nat} {x : Int} (h : l[k]? = some x) (hk : 2 ≤ k) : (l.take (k + 1)).drop 2 = (l.take k).drop 2 ++ [x] := by
  have hl := (List.getElem?_eq_some_iff.1 h).1
  rw [List.take_add_one, h, List.drop_append_of_le_length (by rw [List.length_take]; omega)]
  rfl
theorem take_snoc {l : List Node} {k : Nat} {x : Node} (h : l[k]? = some x) : l.take (k + 1) = l.take k ++ [x] := by
  rw [List.take_add_one, h]; rfl

/-- What lies in memory while the tree is copied. -/
def WI (S : Nat) (w : World) (on : Int) (a0 : Array Value) (v8 : Value) (n8 : Nat) (l8 : List Int) (vN : Value) (kN : Nat) (l : List Node) (wr : World) : Prop :=
  wr.ownsRow S 40 1 v8 n8 (smallVals l8) ∧ wr.ownsRow S 42 7 vN kN (nodeVals l) ∧ Blk wr S 25 a0 ∧ Blk wr (S + 1) 25 #[.int .i64 0, .slice none 0 0, .bool false, .slice none 0 0] ∧
    Blk wr (S + 1 + 1 + 1) 25 #[.int .i64 on, v8, .bool false, vN] ∧ Below S w wr ∧ S + 1 + 1 + 1 < wr.heap.size
theorem WI.step {S : Nat} {w : World} {on : Int} {a0 : Array Value} {v8 : Value} {n8 : Nat} {l8 : List Int} {vN : Value} {kN : Nat} {l : List Node} {wr : World} (h : WI S w on a0 v8 n8 l8 vN kN l wr) {o : Obj} {v2 : Value} {w2 : World} {x : Node}
    (h2 : w2.ownsRow S 42 7 v2 (kN + 1) (nodeVals l ++ x.cells)) (hg : (wr.alloc o).grownBy w2 vN.ownBlock) :
    w2.cell? ⟨S + 1 + 1 + 1, 3, none⟩ = some vN ∧ w2.frozen? ⟨S + 1 + 1 + 1, 3, none⟩ = false ∧ WI S w on a0 v8 n8 l8 v2 (kN + 1) (l ++ [x]) (w2.setCell ⟨S + 1 + 1 + 1, 3, none⟩ v2) := by
  obtain ⟨h8, hN, k0, k1, k5, hb, hz⟩ := h
  have f : Frm S [42] wr w2 := ((Frm.refl S _ wr).alloc (by omega) o).grown (hN.alloc o) hg (Nat.le_refl _) (by simp; omega) (by simp)
  have k0' := f.blk k0 (by decide)
  have k1' := f.blk k1 (by decide)
  have k5' := f.blk k5 (by decide)
  have h8' := f.own h8 (by decide)
  have hz2 := f.size
  refine ⟨k5'.cell 3, k5'.frozen 3, own_setCell h8' (own_blk_ne h8' k5' (by decide)) _, ?_, k0'.far (p := ⟨S + 1 + 1 + 1, 3, none⟩) (by show S ≠ S + 1 + 1 + 1; omega) _, k1'.far (p := ⟨S + 1 + 1 + 1, 3, none⟩) (by show S + 1 ≠ S + 1 + 1 + 1; omega) _, k5'.set_ 3 _, (hb.trans f.below).setCell (p := ⟨S + 1 + 1 + 1, 3, none⟩) (by show S ≤ S + 1 + 1 + 1; omega) _, by simp [World.setCell]; omega⟩
  rw [nodeVals_snoc]
  exact own_setCell h2 (own_blk_ne h2 k5' (by decide)) (p := ⟨S + 1 + 1 + 1, 3, none⟩) v2
theorem WI.start {S : Nat} {w : World} {on : Int} {a0 : Array Value} {v8 : Value} {n8 : Nat} {l8 : List Int} {wr : World} {n : Int} (h8 : wr.ownsRow S 40 1 v8 n8 (smallVals l8)) (k0 : Blk wr S 25 a0) (k1 : Blk wr (S + 1) 25 #[.int .i64 0, .slice none 0 0, .bool false, .slice none 0 0])
    (k5 : Blk wr (S + 1 + 1 + 1) 25 #[.int .i64 on, v8, .bool false, .slice none 0 0]) (hb : Below S w wr) (hz : S + 1 + 1 + 1 < wr.heap.size) :
    WI S w on a0 v8 n8 l8 (.slice (some ⟨wr.heap.size, 0, none⟩) 2 2) 2 (rootN :: timesN n :: []) ((wr.setCell ⟨S + 1 + 1 + 1, 3, none⟩ (.slice (some ⟨wr.heap.size, 0, none⟩) 2 2)).alloc (.cells #[.int .i8 10, .int .i8 0, .int .i64 0, .int .i64 0, .string ⟨#[]⟩, .int .i64 0, .int .i64 1, .int .i8 14, .int .i8 0, .int .i64 n, .int .i64 2, .string ⟨#[]⟩, .int .i64 0, .int .i64 1] 42)) := by
  rw [← World.setCell_alloc_past _ _ _ _ hz]
  have k5' := k5.alloc (.cells #[.int .i8 10, .int .i8 0, .int .i64 0, .int .i64 0, .string ⟨#[]⟩, .int .i64 0, .int .i64 1, .int .i8 14, .int .i8 0, .int .i64 n, .int .i64 2, .string ⟨#[]⟩, .int .i64 0, .int .i64 1] 42)
  have h8' := h8.alloc (.cells #[.int .i8 10, .int .i8 0, .int .i64 0, .int .i64 0, .string ⟨#[]⟩, .int .i64 0, .int .i64 1, .int .i8 14, .int .i8 0, .int .i64 n, .int .i64 2, .string ⟨#[]⟩, .int .i64 0, .int .i64 1] 42)
  have hN := World.ownsRow_lit (base := S) (e := 42) (size := 7) wr #[.int .i8 10, .int .i8 0, .int .i64 0, .int .i64 0, .string ⟨#[]⟩, .int .i64 0, .int .i64 1, .int .i8 14, .int .i8 0, .int .i64 n, .int .i64 2, .string ⟨#[]⟩, .int .i64 0, .int .i64 1] 2 (by omega) (by decide) rfl
  exact ⟨own_setCell h8' (own_blk_ne h8' k5' (by decide)) _, own_setCell hN (own_blk_ne hN k5' (by decide)) (p := ⟨S + 1 + 1 + 1, 3, none⟩) _, (k0.alloc _).far (p := ⟨S + 1 + 1 + 1, 3, none⟩) (by show S ≠ S + 1 + 1 + 1; omega) _, (k1.alloc _).far (p := ⟨S + 1 + 1 + 1, 3, none⟩) (by show S + 1 ≠ S + 1 + 1 + 1; omega) _, k5'.set_ 3 _, (hb.alloc (by omega) _).setCell (p := ⟨S + 1 + 1 + 1, 3, none⟩) (by show S ≤ S + 1 + 1 + 1; omega) _, by simp [World.setCell]; omega⟩

theorem own_smalls {w : World} {S n c : Nat} {A : Option Addr} {l : List Int} (h : w.ownsRow S 40 1 (.slice A n c) n (smallVals l)) : SmallsAt w A l ∧ l.length = n := by
  have h1 := h.1
  simp only [smallVals, List.length_map, Nat.mul_one] at h1
  refine ⟨fun k x hk => ?_, h1⟩
  rcases h.2 with ⟨h2, h3⟩ | ⟨g, cap, cur, h2, h3, h4, _⟩
  · have := (List.getElem?_eq_some_iff.1 hk).1; omega
  · injection h2 with h2 _ _
    subst h2
    refine ⟨g, 0, rfl, (h.lt g rfl).2, ?_⟩
    have := h.cells rfl k (.int .i8 x) (by simp [smallVals, hk])
    rw [← this]
    congr 1
    unfold Addr.add
    cases k <;> simp
theorem own_tree {w : World} {S n c : Nat} {A : Option Addr} {l : List Node} (h : w.ownsRow S 42 7 (.slice A n c) n (nodeVals l)) : TreeAt w A l ∧ l.length = n := by
  have h1 := h.1
  rw [show nodeVals l = l.flatMap Node.cells from rfl, nodeVals_len] at h1
  refine ⟨?_, by omega⟩
  rcases h.2 with ⟨h2, h3⟩ | ⟨g, cap, cur, h2, h3, h4, _⟩
  · exact .inl (List.length_eq_zero_iff.1 (by omega))
  · injection h2 with h2 _ _
    subst h2
    refine .inr ⟨g, 0, rfl, (h.lt g rfl).2, fun i x hx j u hu => ?_⟩
    have := h.cells rfl (i * 7 + j) u (nodeVals_at l i j x u hx hu)
    rw [← this]
    congr 1
    unfold Addr.add
    cases hk : i * 7 + j <;> simp [hk]
theorem WI.done {S : Nat} {w : World} {on : Int} {a0 : Array Value} {A8 : Option Addr} {n8 c8 : Nat} {l8 : List Int} {AN : Option Addr} {kN cN : Nat} {l : List Node} {wr : World} (h : WI S w on a0 (.slice A8 n8 c8) n8 l8 (.slice AN kN cN) kN l wr) {W : World}
    (hW : W = (((wr.setCell ⟨S + 1, 0, none⟩ (.int .i64 on)).setCell ⟨S + 1, 1, none⟩ (.slice A8 n8 c8)).setCell ⟨S + 1, 2, none⟩ (.bool false)).setCell ⟨S + 1, 3, none⟩ (.slice AN kN cN)) :
    SmallsAt W A8 l8 ∧ TreeAt W AN l ∧ l8.length = n8 ∧ l.length = kN ∧ Below S w W ∧ Blk W (S + 1) 25 #[.int .i64 on, .slice A8 n8 c8, .bool false, .slice AN kN cN] := by
  obtain ⟨h8, hN, k0, k1, k5, hb, hz⟩ := h
  have r1 := k1.set_ 0 (.int .i64 on)
  have r2 := r1.set_ 1 (.slice A8 n8 c8)
  have r3 := r2.set_ 2 (.bool false)
  have r4 := r3.set_ 3 (.slice AN kN cN)
  have p1 := own_setCell h8 (own_blk_ne h8 k1 (by decide)) (p := ⟨S + 1, 0, none⟩) (.int .i64 on)
  have p2 := own_setCell p1 (own_blk_ne p1 r1 (by decide)) (p := ⟨S + 1, 1, none⟩) (.slice A8 n8 c8)
  have p3 := own_setCell p2 (own_blk_ne p2 r2 (by decide)) (p := ⟨S + 1, 2, none⟩) (.bool false)
  have p4 := own_setCell p3 (own_blk_ne p3 r3 (by decide)) (p := ⟨S + 1, 3, none⟩) (.slice AN kN cN)
  have q1 := own_setCell hN (own_blk_ne hN k1 (by decide)) (p := ⟨S + 1, 0, none⟩) (.int .i64 on)
  have q2 := own_setCell q1 (own_blk_ne q1 r1 (by decide)) (p := ⟨S + 1, 1, none⟩) (.slice A8 n8 c8)
  have q3 := own_setCell q2 (own_blk_ne q2 r2 (by decide)) (p := ⟨S + 1, 2, none⟩) (.bool false)
  have q4 := own_setCell q3 (own_blk_ne q3 r3 (by decide)) (p := ⟨S + 1, 3, none⟩) (.slice AN kN cN)
  rw [← hW] at r4 p4 q4
  refine ⟨(own_smalls p4).1, (own_tree q4).1, (own_smalls p4).2, (own_tree q4).2, ?_, r4⟩
  rw [hW]
  exact (((hb.setCell (p := ⟨S + 1, 0, none⟩) (by show S ≤ S + 1; omega) _).setCell (p := ⟨S + 1, 1, none⟩) (by show S ≤ S + 1; omega) _).setCell (p := ⟨S + 1, 2, none⟩) (by show S ≤ S + 1; omega) _).setCell (p := ⟨S + 1, 3, none⟩) (by show S ≤ S + 1; omega) _

set_option maxRecDepth 100000 in
set_option maxHeartbeats 4000000 in
theorem within_any (on : Int) (SA TA : Option Addr) (slots : List Int) (sc tc : Nat) (when_ : Bool) (ts : List Node) (n : Int) (w : World) (hl : slots.length ≤ 100000) (ht : ts.length ≤ 100000) (hT : TreeAt w TA ts) (hS : SmallsAt w SA slots) :
    Calls Try.prog 28 #[.agg #[.int .i64 on, .slice SA slots.length sc, .bool when_, .slice TA ts.length tc], .int .i64 n] w fun e w' => ∃ SA' TA' sc' tc', e = .returned (.agg #[.int .i64 on, .slice SA' (withinS slots).length sc', .bool false, .slice TA' (withinT ts n).length tc']) ∧ SmallsAt w' SA' (withinS slots) ∧ TreeAt w' TA' (withinT ts n) ∧ Below w.heap.size w w' := by
  obtain ⟨p, hp⟩ : ∃ p, slots.length = p := ⟨_, rfl⟩
  obtain ⟨m, hm⟩ : ∃ m, ts.length = m := ⟨_, rfl⟩
  rw [hp, hm]
  rw [hp] at hl
  rw [hm] at ht
  obtain ⟨W0, hW0⟩ : ∃ W0, W0 = (w.alloc (.cells #[.int .i64 on, .slice SA p sc, .bool when_, .slice TA m tc] 25)).alloc (.cells #[.int .i64 0, .slice none 0 0, .bool false, .slice none 0 0] 25) := ⟨_, rfl⟩
  obtain ⟨W1, hW1⟩ : ∃ W1, W1 = W0.alloc (.cells #[.int .i8 3, .int .i8 4, .int .i8 1] 40) := ⟨_, rfl⟩
  obtain ⟨W2, hW2⟩ : ∃ W2, W2 = W1.alloc (.cells #[.int .i64 on, .slice (some ⟨w.heap.size + 1 + 1, 0, none⟩) 3 3, .bool false, .slice none 0 0] 25) := ⟨_, rfl⟩
  have z0 : W0.heap.size = w.heap.size + 1 + 1 := by rw [hW0]; simp
  have z1 : W1.heap.size = w.heap.size + 1 + 1 + 1 := by rw [hW1]; simp [z0]
  have z2 : W2.heap.size = w.heap.size + 1 + 1 + 1 + 1 := by rw [hW2]; simp [z1]
  have b0 : Below w.heap.size w W0 := by rw [hW0]; exact ((Below.refl _ _).alloc (Nat.le_refl _) _).alloc (by simp) _
  have b1 : Below w.heap.size w W1 := by rw [hW1]; exact b0.alloc (by omega) _
  have b2 : Below w.heap.size w W2 := by rw [hW2]; exact b1.alloc (by omega) _
  have k0 : Blk W0 w.heap.size 25 #[.int .i64 on, .slice SA p sc, .bool when_, .slice TA m tc] := by rw [hW0]; exact (Blk.new _ _ _).alloc _
  have k1 : Blk W0 (w.heap.size + 1) 25 #[.int .i64 0, .slice none 0 0, .bool false, .slice none 0 0] := by
    rw [hW0]
    have := Blk.new (w.alloc (.cells #[.int .i64 on, .slice SA p sc, .bool when_, .slice TA m tc] 25)) 25 #[.int .i64 0, .slice none 0 0, .bool false, .slice none 0 0]
    simpa using this
  have k0 : Blk W2 w.heap.size 25 #[.int .i64 on, .slice SA p sc, .bool when_, .slice TA m tc] := by rw [hW2, hW1]; exact (k0.alloc _).alloc _
  have k1 : Blk W2 (w.heap.size + 1) 25 #[.int .i64 0, .slice none 0 0, .bool false, .slice none 0 0] := by rw [hW2, hW1]; exact (k1.alloc _).alloc _
  have k5 : Blk W2 (w.heap.size + 1 + 1 + 1) 25 #[.int .i64 on, .slice (some ⟨w.heap.size + 1 + 1, 0, none⟩) 3 3, .bool false, .slice none 0 0] := by
    rw [hW2, ← z1]; exact Blk.new _ _ _
  have o2 : W2.ownsRow w.heap.size 40 1 (.slice (some ⟨w.heap.size + 1 + 1, 0, none⟩) 3 3) 3 (smallVals [3, 4, 1]) := by
    rw [hW2, hW1, ← z0]
    exact (World.ownsRow_lit W0 #[.int .i8 3, .int .i8 4, .int .i8 1] 3 (by omega) (by decide) rfl).alloc _
  have HT := Lib.hid hT
  have HS := Lib.hid hS
  have HP := Lib.hid hp
  have HM := Lib.hid hm
  have hW : W2 = (((w.alloc (.cells #[.int .i64 on, .slice SA p sc, .bool when_, .slice TA m tc] 25)).alloc (.cells #[.int .i64 0, .slice none 0 0, .bool false, .slice none 0 0] 25)).alloc (.cells #[.int .i8 3, .int .i8 4, .int .i8 1] 40)).alloc (.cells #[.int .i64 on, .slice (some ⟨w.heap.size + 1 + 1, 0, none⟩) 3 3, .bool false, .slice none 0 0] 25) := by rw [hW2, hW1, hW0]
  have HW := Lib.hid hW
  have B2 := Lib.hid b2
  have K0 := Lib.hid k0
  have K1 := Lib.hid k1
  have K5 := Lib.hid k5
  have O2 := Lib.hid o2
  clear hT hS hp hm hW0 hW1 hW2 hW z0 z1 b0 b1 b2 k0 k1 k5 o2
  go_enter Try.func28, Try.ntmps28
  go_wp2_with fail
  rw [← HW.out]
  go_loopw [6] (fun iv wr => ∃ (k : Nat) (v : Value), 2 ≤ k ∧ (k ≤ 2 ∨ k ≤ p) ∧ iv = .int .i64 k ∧ wr.ownsRow w.heap.size 40 1 v (k + 1) (smallVals (3 :: 4 :: 1 :: (slots.take k).drop 2)) ∧
      Blk wr w.heap.size 25 #[.int .i64 on, .slice SA p sc, .bool when_, .slice TA m tc] ∧ Blk wr (w.heap.size + 1) 25 #[.int .i64 0, .slice none 0 0, .bool false, .slice none 0 0] ∧
      Blk wr (w.heap.size + 1 + 1 + 1) 25 #[.int .i64 on, v, .bool false, .slice none 0 0] ∧ Below w.heap.size w wr ∧ w.heap.size + 1 + 1 + 1 < wr.heap.size)
    (fun iv _ => p - (intOf iv).toNat)
  case atStart => exact ⟨2, _, by omega, by omega, rfl, by have h := O2.out; have e : (slots.take 2).drop 2 = [] := List.drop_of_length_le (by simp; omega); rw [e]; exact h, K0.out, K1.out, K5.out, B2.out, by omega⟩
  case round =>
    obtain ⟨k, v, hk2, hkp, rfl, hown, hb0, hb1, hb5, hbel, hsz⟩ := hrel
    obtain ⟨A6, c6, rfl⟩ := own_form hown
    have HO := Lib.hid hown
    have HB0 := Lib.hid hb0
    have HB1 := Lib.hid hb1
    have HB5 := Lib.hid hb5
    have HBL := Lib.hid hbel
    have x1 := hb0.cell 1
    have x3 := hb0.cell 3
    have y1 := hb5.cell 1
    have y1f := hb5.frozen 1
    clear hown hb0 hb1 hb5 hbel
    by_cases hlt : k < p
    · obtain ⟨s, hs⟩ : ∃ s, slots[k]? = some s := ⟨_, List.getElem?_eq_getElem (by rw [HP.out]; exact hlt)⟩
      obtain ⟨sb, soff, rfl, hsb, hsc⟩ := HS.out k s hs
      have hsw : wr.cell? ⟨sb, soff + k, none⟩ = some (.int .i8 s) := (HBL.out.cell (p := ⟨sb, _, none⟩) hsb).trans hsc
      have HSS := Lib.hid hs
      clear hs hsc
      go_wp2_with fail
      refine wp_region_text2 (by kernel_rfl) (by kernel_rfl) ?_
      go_wp2_with (at_builtin; go_loud (refine wpList_append1 slot_el rfl _ _ rfl w.heap.size wr.drew [.int .i8 s] rfl _ _ _ rfl HO.out.drew rfl rfl (by simp [Value.oneCell']) (by unfold maxLen; omega) (by omega) (by simp; omega) ?_; intro v2 w2 hown2 hg2; obtain ⟨A7, c7, rfl⟩ := own_form hown2; have q0 := HB0.out.drew.grown hg2 (own_blk_ne HO.out HB0.out (by decide)).symm; have q1 := HB1.out.drew.grown hg2 (own_blk_ne HO.out HB1.out (by decide)).symm; have q5 := HB5.out.drew.grown hg2 (own_blk_ne HO.out HB5.out (by decide)).symm; have qb := Below.of_own HBL.out.drew HO.out.drew hg2 (Nat.le_refl _) (by simp; omega); have qz := hg2.size; have Q0 := Lib.hid q0; have Q1 := Lib.hid q1; have Q5 := Lib.hid q5; have QB := Lib.hid qb; have u1 := q5.cell 1; have u1f := q5.frozen 1; have QO := Lib.hid hown2; clear q0 q1 q5 qb hown2 hg2))
      refine Only.normal ?_
      go_wp2_with fail
      go_roundw
      case rel =>
        refine ⟨k + 1, .slice A7 (k + 1 + 1) c7, by omega, by omega, by go_num, ?_, Q0.out.far (p := ⟨w.heap.size + 1 + 1 + 1, 1, none⟩) (by show w.heap.size ≠ w.heap.size + 1 + 1 + 1; omega) _, Q1.out.far (p := ⟨w.heap.size + 1 + 1 + 1, 1, none⟩) (by show w.heap.size + 1 ≠ w.heap.size + 1 + 1 + 1; omega) _, Q5.out.set_ 1 _, QB.out.setCell (p := ⟨w.heap.size + 1 + 1 + 1, 1, none⟩) (by show w.heap.size ≤ w.heap.size + 1 + 1 + 1; omega) _, by rw [drew_size] at qz; simp [World.setCell]; omega⟩
        have h := own_setCell QO.out (own_blk_ne QO.out Q5.out (by decide)) (p := ⟨w.heap.size + 1 + 1 + 1, 1, none⟩) (.slice A7 (k + 1 + 1) c7)
        rw [take_drop_snoc HSS.out hk2]
        have e : smallVals (3 :: 4 :: 1 :: ((slots.take k).drop 2 ++ [s])) = smallVals (3 :: 4 :: 1 :: (slots.take k).drop 2) ++ [.int .i8 s] := by rw [← smallVals_snoc]; rfl
        rw [e]
        exact h
      case measure => (simp [intOf]; try omega)
    · have hks : (slots.take k).drop 2 = slots.drop 2 := by
        rcases hkp with h | h
        · obtain rfl : k = 2 := by omega
          rw [List.drop_of_length_le (by simp; omega), List.drop_of_length_le (by rw [HP.out]; omega)]
        · rw [List.take_of_length_le (by rw [HP.out]; omega)]
      rw [hks] at HO
      have y3 := HB5.out.cell 3
      have y3f := HB5.out.frozen 3
      have hI := WI.start (n := n) HO.out HB0.out HB1.out HB5.out HBL.out hsz
      have HI0 := Lib.hid hI
      clear hI hks HO HB0 HB1 HB5 HBL
      go_wp2_with fail
      go_loopw [7, 8, 49, 61, 67] (fun iv _ _ _ _ wr => ∃ (k2 : Nat) (v : Value), k2 ≤ m ∧ iv = .int .i64 k2 ∧ WI w.heap.size w on #[.int .i64 on, .slice SA p sc, .bool when_, .slice TA m tc] (.slice A6 (k + 1) c6) (k + 1) (3 :: 4 :: 1 :: slots.drop 2) v (k2 + 2) (rootN :: timesN n :: (ts.take k2).map shiftN) wr)
        (fun iv _ _ _ _ _ => m - (intOf iv).toNat)
      case atStart => exact ⟨0, _, by omega, rfl, HI0.out⟩
      case round =>
        clear x1 x3 y1 y1f y3 y3f HI0
        obtain ⟨q, v, hkm, rfl, hI⟩ := hrel
        obtain ⟨A9, c9, rfl⟩ := own_form hI.2.1
        have HI := Lib.hid hI
        have x1 := hI.2.2.1.cell 1
        have x3 := hI.2.2.1.cell 3
        have y3 := hI.2.2.2.2.1.cell 3
        have y3f := hI.2.2.2.2.1.frozen 3
        have hzz := hI.2.2.2.2.2.2
        clear hI
        by_cases hlt2 : q < m
        · obtain ⟨x, hx⟩ : ∃ x, ts[q]? = some x := ⟨_, List.getElem?_eq_getElem (by rw [HM.out]; exact hlt2)⟩
          rcases HT.out with h | ⟨tb, toff, rfl, htb, hN⟩
          · subst h; simp at hx
          obtain ⟨n0, n1, n2, n3, n4, n5, n6⟩ := (hN.below HI.out.2.2.2.2.2.1 htb).all hx
          have HXX := Lib.hid hx
          clear hx hN
          obtain ⟨xo, xk, xn, xm, xt, xp, xq⟩ := x
          simp only at n0 n1 n2 n3 n4 n5 n6
          by_cases hw : xo = 11 ∨ xo = 12 ∨ xo = 33 ∨ xo = 16
          · by_cases hn2 : 2 ≤ xn
            · rcases hw with rfl | rfl | rfl | rfl
              · go_wp2_with (at_builtin; go_loud (refine wpList_append1 node_el rfl _ _ rfl w.heap.size (wr.alloc (.cells #[.int .i8 11, .int .i8 xk, .int .i64 (wrap64 (xn + 1)), .int .i64 xm, .string xt, .int .i64 xp, .int .i64 xq] 42)) [.int .i8 11, .int .i8 xk, .int .i64 (wrap64 (xn + 1)), .int .i64 xm, .string xt, .int .i64 xp, .int .i64 xq] rfl _ _ _ rfl (HI.out.2.1.alloc _) (by rw [World.size_alloc]; rfl) rfl (by simp [Value.oneCell']) (by unfold maxLen; omega) (by omega) (by simp; omega) ?_; intro v2 w2 hown2 hg2; obtain ⟨A7, c7, rfl⟩ := own_form hown2; obtain ⟨u3, u3f, hI2⟩ := HI.out.step (x := (⟨11, xk, (wrap64 (xn + 1)), xm, xt, xp, xq⟩ : Node)) hown2 hg2; have QI := Lib.hid hI2; clear hI2 hown2 hg2))
                go_roundw
                case rel =>
                  refine ⟨q + 1, .slice A7 (q + 2 + 1) c7, by omega, by go_num, ?_⟩
                  have e : rootN :: timesN n :: (ts.take (q + 1)).map shiftN = (rootN :: timesN n :: (ts.take q).map shiftN) ++ [(⟨11, xk, (wrap64 (xn + 1)), xm, xt, xp, xq⟩ : Node)] := by
                    rw [take_snoc HXX.out, List.map_append]
                    have e1 : shiftN ⟨11, xk, xn, xm, xt, xp, xq⟩ = (⟨11, xk, (wrap64 (xn + 1)), xm, xt, xp, xq⟩ : Node) := by unfold shiftN; rw [if_pos (by simp), if_pos (by simpa using hn2)]
                    rw [List.map_cons, List.map_nil, e1]
                    rfl
                  rw [e]
                  exact QI.out
                case measure => (simp [intOf]; try omega)
              · go_wp2_with (at_builtin; go_loud (refine wpList_append1 node_el rfl _ _ rfl w.heap.size (wr.alloc (.cells #[.int .i8 12, .int .i8 xk, .int .i64 (wrap64 (xn + 1)), .int .i64 xm, .string xt, .int .i64 xp, .int .i64 xq] 42)) [.int .i8 12, .int .i8 xk, .int .i64 (wrap64 (xn + 1)), .int .i64 xm, .string xt, .int .i64 xp, .int .i64 xq] rfl _ _ _ rfl (HI.out.2.1.alloc _) (by rw [World.size_alloc]; rfl) rfl (by simp [Value.oneCell']) (by unfold maxLen; omega) (by omega) (by simp; omega) ?_; intro v2 w2 hown2 hg2; obtain ⟨A7, c7, rfl⟩ := own_form hown2; obtain ⟨u3, u3f, hI2⟩ := HI.out.step (x := (⟨12, xk, (wrap64 (xn + 1)), xm, xt, xp, xq⟩ : Node)) hown2 hg2; have QI := Lib.hid hI2; clear hI2 hown2 hg2))
                go_roundw
                case rel =>
                  refine ⟨q + 1, .slice A7 (q + 2 + 1) c7, by omega, by go_num, ?_⟩
                  have e : rootN :: timesN n :: (ts.take (q + 1)).map shiftN = (rootN :: timesN n :: (ts.take q).map shiftN) ++ [(⟨12, xk, (wrap64 (xn + 1)), xm, xt, xp, xq⟩ : Node)] := by
                    rw [take_snoc HXX.out, List.map_append]
                    have e1 : shiftN ⟨12, xk, xn, xm, xt, xp, xq⟩ = (⟨12, xk, (wrap64 (xn + 1)), xm, xt, xp, xq⟩ : Node) := by unfold shiftN; rw [if_pos (by simp), if_pos (by simpa using hn2)]
                    rw [List.map_cons, List.map_nil, e1]
                    rfl
                  rw [e]
                  exact QI.out
                case measure => (simp [intOf]; try omega)
              · go_wp2_with (at_builtin; go_loud (refine wpList_append1 node_el rfl _ _ rfl w.heap.size (wr.alloc (.cells #[.int .i8 33, .int .i8 xk, .int .i64 (wrap64 (xn + 1)), .int .i64 xm, .string xt, .int .i64 xp, .int .i64 xq] 42)) [.int .i8 33, .int .i8 xk, .int .i64 (wrap64 (xn + 1)), .int .i64 xm, .string xt, .int .i64 xp, .int .i64 xq] rfl _ _ _ rfl (HI.out.2.1.alloc _) (by rw [World.size_alloc]; rfl) rfl (by simp [Value.oneCell']) (by unfold maxLen; omega) (by omega) (by simp; omega) ?_; intro v2 w2 hown2 hg2; obtain ⟨A7, c7, rfl⟩ := own_form hown2; obtain ⟨u3, u3f, hI2⟩ := HI.out.step (x := (⟨33, xk, (wrap64 (xn + 1)), xm, xt, xp, xq⟩ : Node)) hown2 hg2; have QI := Lib.hid hI2; clear hI2 hown2 hg2))
                go_roundw
                case rel =>
                  refine ⟨q + 1, .slice A7 (q + 2 + 1) c7, by omega, by go_num, ?_⟩
                  have e : rootN :: timesN n :: (ts.take (q + 1)).map shiftN = (rootN :: timesN n :: (ts.take q).map shiftN) ++ [(⟨33, xk, (wrap64 (xn + 1)), xm, xt, xp, xq⟩ : Node)] := by
                    rw [take_snoc HXX.out, List.map_append]
                    have e1 : shiftN ⟨33, xk, xn, xm, xt, xp, xq⟩ = (⟨33, xk, (wrap64 (xn + 1)), xm, xt, xp, xq⟩ : Node) := by unfold shiftN; rw [if_pos (by simp), if_pos (by simpa using hn2)]
                    rw [List.map_cons, List.map_nil, e1]
                    rfl
                  rw [e]
                  exact QI.out
                case measure => (simp [intOf]; try omega)
              · go_wp2_with (at_builtin; go_loud (refine wpList_append1 node_el rfl _ _ rfl w.heap.size (wr.alloc (.cells #[.int .i8 16, .int .i8 xk, .int .i64 (wrap64 (xn + 1)), .int .i64 xm, .string xt, .int .i64 xp, .int .i64 xq] 42)) [.int .i8 16, .int .i8 xk, .int .i64 (wrap64 (xn + 1)), .int .i64 xm, .string xt, .int .i64 xp, .int .i64 xq] rfl _ _ _ rfl (HI.out.2.1.alloc _) (by rw [World.size_alloc]; rfl) rfl (by simp [Value.oneCell']) (by unfold maxLen; omega) (by omega) (by simp; omega) ?_; intro v2 w2 hown2 hg2; obtain ⟨A7, c7, rfl⟩ := own_form hown2; obtain ⟨u3, u3f, hI2⟩ := HI.out.step (x := (⟨16, xk, (wrap64 (xn + 1)), xm, xt, xp, xq⟩ : Node)) hown2 hg2; have QI := Lib.hid hI2; clear hI2 hown2 hg2))
                go_roundw
                case rel =>
                  refine ⟨q + 1, .slice A7 (q + 2 + 1) c7, by omega, by go_num, ?_⟩
                  have e : rootN :: timesN n :: (ts.take (q + 1)).map shiftN = (rootN :: timesN n :: (ts.take q).map shiftN) ++ [(⟨16, xk, (wrap64 (xn + 1)), xm, xt, xp, xq⟩ : Node)] := by
                    rw [take_snoc HXX.out, List.map_append]
                    have e1 : shiftN ⟨16, xk, xn, xm, xt, xp, xq⟩ = (⟨16, xk, (wrap64 (xn + 1)), xm, xt, xp, xq⟩ : Node) := by unfold shiftN; rw [if_pos (by simp), if_pos (by simpa using hn2)]
                    rw [List.map_cons, List.map_nil, e1]
                    rfl
                  rw [e]
                  exact QI.out
                case measure => (simp [intOf]; try omega)
            · rcases hw with rfl | rfl | rfl | rfl
              · go_wp2_with (at_builtin; go_loud (refine wpList_append1 node_el rfl _ _ rfl w.heap.size (wr.alloc (.cells #[.int .i8 11, .int .i8 xk, .int .i64 xn, .int .i64 xm, .string xt, .int .i64 xp, .int .i64 xq] 42)) [.int .i8 11, .int .i8 xk, .int .i64 xn, .int .i64 xm, .string xt, .int .i64 xp, .int .i64 xq] rfl _ _ _ rfl (HI.out.2.1.alloc _) (by rw [World.size_alloc]; rfl) rfl (by simp [Value.oneCell']) (by unfold maxLen; omega) (by omega) (by simp; omega) ?_; intro v2 w2 hown2 hg2; obtain ⟨A7, c7, rfl⟩ := own_form hown2; obtain ⟨u3, u3f, hI2⟩ := HI.out.step (x := (⟨11, xk, xn, xm, xt, xp, xq⟩ : Node)) hown2 hg2; have QI := Lib.hid hI2; clear hI2 hown2 hg2))
                go_roundw
                case rel =>
                  refine ⟨q + 1, .slice A7 (q + 2 + 1) c7, by omega, by go_num, ?_⟩
                  have e : rootN :: timesN n :: (ts.take (q + 1)).map shiftN = (rootN :: timesN n :: (ts.take q).map shiftN) ++ [(⟨11, xk, xn, xm, xt, xp, xq⟩ : Node)] := by
                    rw [take_snoc HXX.out, List.map_append]
                    have e1 : shiftN ⟨11, xk, xn, xm, xt, xp, xq⟩ = (⟨11, xk, xn, xm, xt, xp, xq⟩ : Node) := by unfold shiftN; rw [if_pos (by simp), if_neg (by simpa using hn2)]
                    rw [List.map_cons, List.map_nil, e1]
                    rfl
                  rw [e]
                  exact QI.out
                case measure => (simp [intOf]; try omega)
              · go_wp2_with (at_builtin; go_loud (refine wpList_append1 node_el rfl _ _ rfl w.heap.size (wr.alloc (.cells #[.int .i8 12, .int .i8 xk, .int .i64 xn, .int .i64 xm, .string xt, .int .i64 xp, .int .i64 xq] 42)) [.int .i8 12, .int .i8 xk, .int .i64 xn, .int .i64 xm, .string xt, .int .i64 xp, .int .i64 xq] rfl _ _ _ rfl (HI.out.2.1.alloc _) (by rw [World.size_alloc]; rfl) rfl (by simp [Value.oneCell']) (by unfold maxLen; omega) (by omega) (by simp; omega) ?_; intro v2 w2 hown2 hg2; obtain ⟨A7, c7, rfl⟩ := own_form hown2; obtain ⟨u3, u3f, hI2⟩ := HI.out.step (x := (⟨12, xk, xn, xm, xt, xp, xq⟩ : Node)) hown2 hg2; have QI := Lib.hid hI2; clear hI2 hown2 hg2))
                go_roundw
                case rel =>
                  refine ⟨q + 1, .slice A7 (q + 2 + 1) c7, by omega, by go_num, ?_⟩
                  have e : rootN :: timesN n :: (ts.take (q + 1)).map shiftN = (rootN :: timesN n :: (ts.take q).map shiftN) ++ [(⟨12, xk, xn, xm, xt, xp, xq⟩ : Node)] := by
                    rw [take_snoc HXX.out, List.map_append]
                    have e1 : shiftN ⟨12, xk, xn, xm, xt, xp, xq⟩ = (⟨12, xk, xn, xm, xt, xp, xq⟩ : Node) := by unfold shiftN; rw [if_pos (by simp), if_neg (by simpa using hn2)]
                    rw [List.map_cons, List.map_nil, e1]
                    rfl
                  rw [e]
                  exact QI.out
                case measure => (simp [intOf]; try omega)
              · go_wp2_with (at_builtin; go_loud (refine wpList_append1 node_el rfl _ _ rfl w.heap.size (wr.alloc (.cells #[.int .i8 33, .int .i8 xk, .int .i64 xn, .int .i64 xm, .string xt, .int .i64 xp, .int .i64 xq] 42)) [.int .i8 33, .int .i8 xk, .int .i64 xn, .int .i64 xm, .string xt, .int .i64 xp, .int .i64 xq] rfl _ _ _ rfl (HI.out.2.1.alloc _) (by rw [World.size_alloc]; rfl) rfl (by simp [Value.oneCell']) (by unfold maxLen; omega) (by omega) (by simp; omega) ?_; intro v2 w2 hown2 hg2; obtain ⟨A7, c7, rfl⟩ := own_form hown2; obtain ⟨u3, u3f, hI2⟩ := HI.out.step (x := (⟨33, xk, xn, xm, xt, xp, xq⟩ : Node)) hown2 hg2; have QI := Lib.hid hI2; clear hI2 hown2 hg2))
                go_roundw
                case rel =>
                  refine ⟨q + 1, .slice A7 (q + 2 + 1) c7, by omega, by go_num, ?_⟩
                  have e : rootN :: timesN n :: (ts.take (q + 1)).map shiftN = (rootN :: timesN n :: (ts.take q).map shiftN) ++ [(⟨33, xk, xn, xm, xt, xp, xq⟩ : Node)] := by
                    rw [take_snoc HXX.out, List.map_append]
                    have e1 : shiftN ⟨33, xk, xn, xm, xt, xp, xq⟩ = (⟨33, xk, xn, xm, xt, xp, xq⟩ : Node) := by unfold shiftN; rw [if_pos (by simp), if_neg (by simpa using hn2)]
                    rw [List.map_cons, List.map_nil, e1]
                    rfl
                  rw [e]
                  exact QI.out
                case measure => (simp [intOf]; try omega)
              · go_wp2_with (at_builtin; go_loud (refine wpList_append1 node_el rfl _ _ rfl w.heap.size (wr.alloc (.cells #[.int .i8 16, .int .i8 xk, .int .i64 xn, .int .i64 xm, .string xt, .int .i64 xp, .int .i64 xq] 42)) [.int .i8 16, .int .i8 xk, .int .i64 xn, .int .i64 xm, .string xt, .int .i64 xp, .int .i64 xq] rfl _ _ _ rfl (HI.out.2.1.alloc _) (by rw [World.size_alloc]; rfl) rfl (by simp [Value.oneCell']) (by unfold maxLen; omega) (by omega) (by simp; omega) ?_; intro v2 w2 hown2 hg2; obtain ⟨A7, c7, rfl⟩ := own_form hown2; obtain ⟨u3, u3f, hI2⟩ := HI.out.step (x := (⟨16, xk, xn, xm, xt, xp, xq⟩ : Node)) hown2 hg2; have QI := Lib.hid hI2; clear hI2 hown2 hg2))
                go_roundw
                case rel =>
                  refine ⟨q + 1, .slice A7 (q + 2 + 1) c7, by omega, by go_num, ?_⟩
                  have e : rootN :: timesN n :: (ts.take (q + 1)).map shiftN = (rootN :: timesN n :: (ts.take q).map shiftN) ++ [(⟨16, xk, xn, xm, xt, xp, xq⟩ : Node)] := by
                    rw [take_snoc HXX.out, List.map_append]
                    have e1 : shiftN ⟨16, xk, xn, xm, xt, xp, xq⟩ = (⟨16, xk, xn, xm, xt, xp, xq⟩ : Node) := by unfold shiftN; rw [if_pos (by simp), if_neg (by simpa using hn2)]
                    rw [List.map_cons, List.map_nil, e1]
                    rfl
                  rw [e]
                  exact QI.out
                case measure => (simp [intOf]; try omega)
          · by_cases h14 : xo = 14
            · subst h14
              go_wp2_with (at_builtin; go_loud (refine wpList_append1 node_el rfl _ _ rfl w.heap.size (wr.alloc (.cells #[.int .i8 14, .int .i8 xk, .int .i64 xn, .int .i64 (wrap64 (xm + 1)), .string xt, .int .i64 xp, .int .i64 xq] 42)) [.int .i8 14, .int .i8 xk, .int .i64 xn, .int .i64 (wrap64 (xm + 1)), .string xt, .int .i64 xp, .int .i64 xq] rfl _ _ _ rfl (HI.out.2.1.alloc _) (by rw [World.size_alloc]; rfl) rfl (by simp [Value.oneCell']) (by unfold maxLen; omega) (by omega) (by simp; omega) ?_; intro v2 w2 hown2 hg2; obtain ⟨A7, c7, rfl⟩ := own_form hown2; obtain ⟨u3, u3f, hI2⟩ := HI.out.step (x := (⟨14, xk, xn, (wrap64 (xm + 1)), xt, xp, xq⟩ : Node)) hown2 hg2; have QI := Lib.hid hI2; clear hI2 hown2 hg2))
              go_roundw
              case rel =>
                refine ⟨q + 1, .slice A7 (q + 2 + 1) c7, by omega, by go_num, ?_⟩
                have e : rootN :: timesN n :: (ts.take (q + 1)).map shiftN = (rootN :: timesN n :: (ts.take q).map shiftN) ++ [(⟨14, xk, xn, (wrap64 (xm + 1)), xt, xp, xq⟩ : Node)] := by
                  rw [take_snoc HXX.out, List.map_append]
                  have e1 : shiftN ⟨14, xk, xn, xm, xt, xp, xq⟩ = (⟨14, xk, xn, (wrap64 (xm + 1)), xt, xp, xq⟩ : Node) := by unfold shiftN; rw [if_neg (by simp), if_pos rfl]
                  rw [List.map_cons, List.map_nil, e1]
                  rfl
                rw [e]
                exact QI.out
              case measure => (simp [intOf]; try omega)
            · by_cases h15 : xo = 15
              · subst h15
                go_wp2_with (at_builtin; go_loud (refine wpList_append1 node_el rfl _ _ rfl w.heap.size (wr.alloc (.cells #[.int .i8 15, .int .i8 xk, .int .i64 (wrap64 (xn + 1)), .int .i64 (wrap64 (xm + 1)), .string xt, .int .i64 xp, .int .i64 xq] 42)) [.int .i8 15, .int .i8 xk, .int .i64 (wrap64 (xn + 1)), .int .i64 (wrap64 (xm + 1)), .string xt, .int .i64 xp, .int .i64 xq] rfl _ _ _ rfl (HI.out.2.1.alloc _) (by rw [World.size_alloc]; rfl) rfl (by simp [Value.oneCell']) (by unfold maxLen; omega) (by omega) (by simp; omega) ?_; intro v2 w2 hown2 hg2; obtain ⟨A7, c7, rfl⟩ := own_form hown2; obtain ⟨u3, u3f, hI2⟩ := HI.out.step (x := (⟨15, xk, (wrap64 (xn + 1)), (wrap64 (xm + 1)), xt, xp, xq⟩ : Node)) hown2 hg2; have QI := Lib.hid hI2; clear hI2 hown2 hg2))
                go_roundw
                case rel =>
                  refine ⟨q + 1, .slice A7 (q + 2 + 1) c7, by omega, by go_num, ?_⟩
                  have e : rootN :: timesN n :: (ts.take (q + 1)).map shiftN = (rootN :: timesN n :: (ts.take q).map shiftN) ++ [(⟨15, xk, (wrap64 (xn + 1)), (wrap64 (xm + 1)), xt, xp, xq⟩ : Node)] := by
                    rw [take_snoc HXX.out, List.map_append]
                    have e1 : shiftN ⟨15, xk, xn, xm, xt, xp, xq⟩ = (⟨15, xk, (wrap64 (xn + 1)), (wrap64 (xm + 1)), xt, xp, xq⟩ : Node) := by unfold shiftN; rw [if_neg (by simp), if_neg (by simp), if_pos rfl]
                    rw [List.map_cons, List.map_nil, e1]
                    rfl
                  rw [e]
                  exact QI.out
                case measure => (simp [intOf]; try omega)
              · have t1 : (xo == 11) = false := beq_false_of (by omega)
                have t2 : (xo == 12) = false := beq_false_of (by omega)
                have t3 : (xo == 33) = false := beq_false_of (by omega)
                have t4 : (xo == 16) = false := beq_false_of (by omega)
                have t5 : (xo == 14) = false := beq_false_of (by omega)
                have t6 : (xo == 15) = false := beq_false_of (by omega)
                go_wp2_with (at_builtin; go_loud (refine wpList_append1 node_el rfl _ _ rfl w.heap.size (wr.alloc (.cells #[.int .i8 xo, .int .i8 xk, .int .i64 xn, .int .i64 xm, .string xt, .int .i64 xp, .int .i64 xq] 42)) [.int .i8 xo, .int .i8 xk, .int .i64 xn, .int .i64 xm, .string xt, .int .i64 xp, .int .i64 xq] rfl _ _ _ rfl (HI.out.2.1.alloc _) (by rw [World.size_alloc]; rfl) rfl (by simp [Value.oneCell']) (by unfold maxLen; omega) (by omega) (by simp; omega) ?_; intro v2 w2 hown2 hg2; obtain ⟨A7, c7, rfl⟩ := own_form hown2; obtain ⟨u3, u3f, hI2⟩ := HI.out.step (x := (⟨xo, xk, xn, xm, xt, xp, xq⟩ : Node)) hown2 hg2; have QI := Lib.hid hI2; clear hI2 hown2 hg2))
                go_roundw
                case rel =>
                  refine ⟨q + 1, .slice A7 (q + 2 + 1) c7, by omega, by go_num, ?_⟩
                  have e : rootN :: timesN n :: (ts.take (q + 1)).map shiftN = (rootN :: timesN n :: (ts.take q).map shiftN) ++ [(⟨xo, xk, xn, xm, xt, xp, xq⟩ : Node)] := by
                    rw [take_snoc HXX.out, List.map_append]
                    have e1 : shiftN ⟨xo, xk, xn, xm, xt, xp, xq⟩ = (⟨xo, xk, xn, xm, xt, xp, xq⟩ : Node) := by unfold shiftN; rw [if_neg hw, if_neg h14, if_neg h15]
                    rw [List.map_cons, List.map_nil, e1]
                    rfl
                  rw [e]
                  exact QI.out
                case measure => (simp [intOf]; try omega)
        · have htk : ts.take q = ts := List.take_of_length_le (by rw [HM.out]; omega)
          have hI := HI.out
          rw [htk] at hI
          obtain ⟨W, hW⟩ : ∃ W, W = (((wr.setCell ⟨w.heap.size + 1, 0, none⟩ (.int .i64 on)).setCell ⟨w.heap.size + 1, 1, none⟩ (.slice A6 (k + 1) c6)).setCell ⟨w.heap.size + 1, 2, none⟩ (.bool false)).setCell ⟨w.heap.size + 1, 3, none⟩ (.slice A9 (q + 2) c9) := ⟨_, rfl⟩
          have hD := hI.done hW
          have HD := Lib.hid hD
          have HW9 := Lib.hid hW
          have y0 := hI.2.2.2.2.1.cell 0
          have y1 := hI.2.2.2.2.1.cell 1
          have y2 := hI.2.2.2.2.1.cell 2
          have v0 := hI.2.2.2.1.cell 0
          have v1 := hI.2.2.2.1.cell 1
          have v2 := hI.2.2.2.1.cell 2
          have v3 := hI.2.2.2.1.cell 3
          have f0 := hI.2.2.2.1.frozen 0
          have f1 := hI.2.2.2.1.frozen 1
          have f2 := hI.2.2.2.1.frozen 2
          have f3 := hI.2.2.2.1.frozen 3
          clear hI hD hW htk HI
          go_wp2_with fail
          rw [← HW9.out]
          obtain ⟨d1, d2, d3, d4, d5, d6⟩ := HD.out
          have g0 := d6.cell 0
          have g1 := d6.cell 1
          have g2 := d6.cell 2
          have g3 := d6.cell 3
          have l1 : (withinS slots).length = k + 1 := d3
          have l2 : (withinT ts n).length = q + 2 := d4
          rw [l1, l2]
          exact bodyPost_ret (v := .agg #[.int .i64 on, .slice A6 (k + 1) c6, .bool false, .slice A9 (q + 2) c9]) (by simp [results, Try.results28, go_sem, g0, g1, g2, g3]) rfl ⟨A6, A9, c6, c9, rfl, d1, d2, d5⟩
end Go.Proofs.Ytggibiodeecljaa
namespace Go.Proofs.Ytggibiodeecljaa
open Go.RowKit
set_option linter.unusedVariables false

theorem bound_small {on : Int} {slots : List Int} {when_ : Bool} {ts : List Node} {c x : Int} (h : boundM on slots when_ ts c = (x, 0)) : slots.length ≤ 32 ∧ ts.length ≤ 2000 := by
  unfold boundM at h
  split at h
  · rename_i hc
    have h1 := hc.1
    simp only [checkAble, Bool.and_eq_true, decide_eq_true_eq] at h1
    omega
  · injection h with _ h
    cases h
theorem bound_errs (on : Int) (slots : List Int) (when_ : Bool) (ts : List Node) (c : Int) : boundM on slots when_ ts c = (0, 1) ∨ ∃ x, boundM on slots when_ ts c = (x, 0) := by
  unfold boundM
  split
  · exact .inr ⟨_, rfl⟩
  · exact .inl rfl

set_option maxRecDepth 100000 in
set_option maxHeartbeats 4000000 in
theorem rounds_any (on : Int) (SA TA : Option Addr) (slots : List Int) (sc tc : Nat) (when_ : Bool) (ts : List Node) (n c : Int) (w : World) (hl : slots.length ≤ 281474976710656) (ht : ts.length ≤ 281474976710656) (hT : TreeAt w TA ts) (hS : SmallsAt w SA slots) (htx : ∀ x ∈ ts, x.text.size ≤ 4611686018427387904) :
    Calls Try.prog 7 #[.agg #[.int .i64 on, .slice SA slots.length sc, .bool when_, .slice TA ts.length tc], .int .i64 n, .int .i64 c] w fun e w' => e = .returned (.bool true) ∧ Below w.heap.size w w' := by
  obtain ⟨W, hW⟩ : ∃ W, W = w.alloc (.cells #[.int .i64 on, .slice SA slots.length sc, .bool when_, .slice TA ts.length tc] 25) := ⟨_, rfl⟩
  have hBW : Below w.heap.size w W := by rw [hW]; exact (Below.refl _ _).alloc (Nat.le_refl _) _
  have hzW : w.heap.size < W.heap.size := by rw [hW]; simp
  have hb0 : Blk W w.heap.size 25 #[.int .i64 on, .slice SA slots.length sc, .bool when_, .slice TA ts.length tc] := by rw [hW]; exact Blk.new _ _ _
  have hsz := sizeAble_any on SA TA slots sc tc when_ ts W hl ht (hT.below hBW) htx
  have hR0 := sizeL_ge ts ts.length
  have hRt := sizeL_text ts ts.length (by omega)
  have hcp := fun (w' : World) (h1 : slots.length ≤ 16777216) (h2 : ts.length ≤ 16777216) (h : Below w.heap.size w w') => copyAble_any on SA TA slots sc tc when_ ts w' (by omega) (by omega) (hT.below h) (hS.below h)
  have hwi := fun (w' : World) (h1 : slots.length ≤ 32) (h2 : ts.length ≤ 2000) (h : Below w.heap.size w w') => within_any on SA TA slots sc tc when_ ts n w' (by omega) (by omega) (hT.below h) (hS.below h)
  have hbd := fun (hx : ∀ x ∈ ts, x.text.size ≤ 1099511627776) (A B : Option Addr) (s t : Nat) (w' : World) (h1 : SmallsAt w' A slots) (h2 : TreeAt w' B ts) => bound_any on A B slots s t when_ ts c w' h2 h1 hx
  have hbe := fun (hx : ∀ x ∈ withinT ts n, x.text.size ≤ 1099511627776) (A B : Option Addr) (s t : Nat) (w' : World) (h1 : SmallsAt w' A (withinS slots)) (h2 : TreeAt w' B (withinT ts n)) => bound_any on A B (withinS slots) s t false (withinT ts n) c w' h2 h1 hx
  have hpl := fun x h0 h1 h => rounds_plain on slots ts n c x h0 h1 h
  have hsm := fun x (h : boundM on slots when_ ts c = (x, 0)) => bound_small h
  have her := bound_errs on slots when_ ts c
  have hlives := lives_any
  obtain ⟨R, hR⟩ : ∃ R, R = sizeL ts ts.length := ⟨_, rfl⟩
  obtain ⟨p, hn⟩ : ∃ p, slots.length = p := ⟨_, rfl⟩
  obtain ⟨m, hm⟩ : ∃ m, ts.length = m := ⟨_, rfl⟩
  obtain ⟨p2, hn2⟩ : ∃ p, (withinS slots).length = p := ⟨_, rfl⟩
  obtain ⟨m2, hm2⟩ : ∃ m, (withinT ts n).length = m := ⟨_, rfl⟩
  simp only [← hR] at hsz hRt hR0
  rw [hn] at hb0 hl hsz hW hcp ⊢
  rw [hm] at hb0 ht hsz hW hR0 hcp ⊢
  simp only [hn, hm] at hbd hwi hsm
  simp only [hn2, hm2] at hwi hbe
  have hwt : (∀ x ∈ ts, x.text.size ≤ 1099511627776) → ∀ x ∈ withinT ts n, x.text.size ≤ 1099511627776 := by
    intro h x hx
    unfold withinT at hx
    rcases List.mem_cons.1 hx with rfl | hx
    · decide
    rcases List.mem_cons.1 hx with rfl | hx
    · show ByteArray.empty.size ≤ _; decide
    · obtain ⟨y, hy, rfl⟩ := List.mem_map.1 hx
      rw [shiftN_text]
      exact h y hy
  have HW := Lib.hid hW
  have HSZ := Lib.hid hsz
  have HRT := Lib.hid hRt
  have HCP := Lib.hid hcp
  have HWI := Lib.hid hwi
  have HB1 := Lib.hid hbd
  have HB2 := Lib.hid hbe
  have HPL := Lib.hid hpl
  have HSM := Lib.hid hsm
  have HER := Lib.hid her
  have HL := Lib.hid hlives
  have HBW := Lib.hid hBW
  have HK := Lib.hid hb0
  have HWT := Lib.hid hwt
  clear hW hsz hRt hcp hwi hbd hbe hpl hsm her hlives hBW hb0 hwt hT hS htx hR hn hm hn2 hm2
  go_enter Try.func7, Try.ntmps7
  go_wp2_with fail
  rw [← HW.out]
  refine HSZ.out.mono ?_
  rintro e w1 ⟨rfl, hbel1⟩
  have hz1 := hbel1.size
  have hlt1 : w.heap.size < w1.heap.size := by omega
  have k1 := HK.out.below hbel1 hzW
  have K1 := Lib.hid k1
  have BL1 := Lib.hid (HBW.out.trans (hbel1.mono (by omega)))
  have x0 := k1.cell 0
  have x1 := k1.cell 1
  have x2 := k1.cell 2
  have x3 := k1.cell 3
  clear k1 hbel1
  go_wp2_with fail
  refine (long_any _ _).mono ?_
  rintro e w1' ⟨rfl, rfl⟩
  by_cases hbig : 16777216 < (p : Int) + R
  · have hd : decide (16777216 < (p : Int) + R) = true := by simp [hbig]
    rw [hd]
    go_wp2_with fail
    go_ret
    exact ⟨rfl, BL1.out⟩
  have hd : decide (16777216 < (p : Int) + R) = false := by simp [hbig]
  rw [hd]
  clear hd
  have hxt : ∀ x ∈ ts, x.text.size ≤ 1099511627776 := fun x hx => by have := HRT.out (by omega) x hx; omega
  have HXT := Lib.hid hxt
  clear hxt
  cases when_ with
  | true =>
    go_wp2_with fail
    go_ret
    exact ⟨rfl, BL1.out⟩
  | false =>
  by_cases hn0 : n < 0
  · go_wp2_with fail
    go_ret
    exact ⟨rfl, BL1.out⟩
  by_cases hn1 : 255 < n
  · go_wp2_with fail
    go_ret
    exact ⟨rfl, BL1.out⟩
  have hd0 : decide (n < 0) = false := by simp; omega
  have hd1 : decide (255 < n) = false := by simp; omega
  go_wp2_with fail
  refine (HCP.out _ (by omega) (by omega) BL1.out).mono ?_
  rintro e w2 ⟨SA', TA', sc', tc', rfl, hS2, hT2, hbel2⟩
  have hz2 := hbel2.size
  have hlt2 : w.heap.size < w2.heap.size := by omega
  have k2 := K1.out.below hbel2 hlt1
  have K2 := Lib.hid k2
  have BL2 := Lib.hid (BL1.out.trans (hbel2.mono (by omega)))
  have HS2 := Lib.hid hS2
  have HT2 := Lib.hid hT2
  clear k2 hbel2 hS2 hT2 x0 x1 x2 x3
  go_wp2_with fail
  refine (HB1.out HXT.out SA' TA' sc' tc' _ HS2.out HT2.out).mono ?_
  rintro e w3 ⟨rfl, hbel3⟩
  have hz3 := hbel3.size
  have hlt3 : w.heap.size < w3.heap.size := by omega
  have k3 := K2.out.below hbel3 hlt2
  have K3 := Lib.hid k3
  have BL3 := Lib.hid (BL2.out.trans (hbel3.mono (by omega)))
  have x0 := k3.cell 0
  have x1 := k3.cell 1
  have x2 := k3.cell 2
  have x3 := k3.cell 3
  clear k3 hbel3
  rcases HER.out with hE | ⟨x, hE⟩
  · rw [hE]
    go_wp2_with fail
    refine (HL.out _).mono ?_
    rintro e w6 ⟨rfl, hbel6⟩
    have BL6 := Lib.hid (BL3.out.trans (hbel6.mono (by omega)))
    clear hbel6
    go_wp2_with fail
    go_ret
    exact ⟨rfl, BL6.out⟩
  · have hsm := HSM.out x hE
    obtain ⟨hp32, hm2000⟩ := hsm
    obtain ⟨hx1, hx2, hP⟩ := HPL.out x (by omega) (by omega) hE
    rw [hE]
    have HP := Lib.hid hP
    clear hP hE
    go_wp2_with fail
    refine (HWI.out _ (by omega) (by omega) BL3.out).mono ?_
    rintro e w4 ⟨SA2, TA2, sc2, tc2, rfl, hS4, hT4, hbel4⟩
    have hz4 := hbel4.size
    have BL4 := Lib.hid (BL3.out.trans (hbel4.mono (by omega)))
    have HS4 := Lib.hid hS4
    have HT4 := Lib.hid hT4
    clear hbel4 hS4 hT4 x0 x1 x2 x3
    go_wp2_with fail
    refine (HB2.out (HWT.out HXT.out) SA2 TA2 sc2 tc2 _ HS4.out HT4.out).mono ?_
    rintro e w5 ⟨rfl, hbel5⟩
    have hz5 := hbel5.size
    have BL5 := Lib.hid (BL4.out.trans (hbel5.mono (by omega)))
    clear hbel5
    rcases HP.out with hF | ⟨y, hF, hy0, hy1, hbigx, hsmall⟩
    · rw [hF]
      go_wp2_with fail
      refine (HL.out _).mono ?_
      rintro e w6 ⟨rfl, hbel6⟩
      have BL6 := Lib.hid (BL5.out.trans (hbel6.mono (by omega)))
      clear hbel6
      go_wp2_with fail
      go_ret
      exact ⟨rfl, BL6.out⟩
    · rw [hF]
      by_cases hxb : 1099511627776 < x
      · have hor := hbigx hxb
        clear hF hbigx hsmall
        obtain ⟨q, hq⟩ : ∃ q, wrap64 (x * n) = q := ⟨_, rfl⟩
        rw [hq] at hor
        by_cases hyq : q ≤ y
        · go_wp2_with fail
          go_ret
          exact ⟨rfl, BL5.out⟩
        · have hym : y = 4611686018427387904 := by omega
          go_wp2_with fail
          go_ret
          exact ⟨rfl, BL5.out⟩
      · have hye := hsmall (by omega)
        clear hF hbigx hsmall
        have hq0 : 0 ≤ n * (x - 1 + 5) := Int.mul_nonneg (by omega) (by omega)
        have hq1 : n * (x - 1 + 5) ≤ 255 * (x - 1 + 5) := Int.mul_le_mul_of_nonneg_right (by omega) (by omega)
        go_wp2_with fail
        refine (HL.out _).mono ?_
        rintro e w6 ⟨rfl, hbel6⟩
        have BL6 := Lib.hid (BL5.out.trans (hbel6.mono (by omega)))
        clear hbel6
        go_wp2_with fail
        go_ret
        exact ⟨rfl, BL6.out⟩
end Go.Proofs.Ytggibiodeecljaa
namespace Go.Proofs.Ytggibiodeecljaa
open Go.ChangeShapes Go.WideShapes Go.ChangeAt Go.RowKit Go.Joins
set_option linter.unusedVariables false

set_option maxRecDepth 100000 in
theorem roundsLifted (os : Os) (started : os.Started) (H : Type) (enc : TypeId × Value → H) :
    ReturnsInHanded {} Try.checked os 7 .any (Rows.boundRoundsSpec.pre6 enc Try.prog Try.f7 Rows.boundRoundsRow.domain false) (Rows.boundRoundsSpec.post enc Try.prog Try.f7 false true false false) := by
  refine returnsInHanded_of_change_sized (C := Try.checked) own_ started (by kernel_rfl) Try.func7
    (ChangeSpec.witness6 (enc := enc) (C := Try.checked) false ⟨#[], #[.agg #[.int .i64 0, .slice none 0 0, .bool false, .slice none 0 0], .int .i64 0, .int .i64 0], []⟩ 8 (by kernel_rfl) (by kernel_rfl) (by kernel_rfl) (by kernel_rfl)) ?_
  intro W base args ds gs before hval0 hW hcnd hsz0 _
  have hval : ∀ (j : Nat) t v, Try.f7.params[j]? = some t → args[j]? = some v → Value.okWide Try.prog W .any base t v := hval0
  have hsz : (DataW.weightsEach Try.prog (Try.f7.params.toList ++ Rows.boundRoundsSpec.plain.varTypes Try.prog) (ds ++ gs)).all (· ≤ reachBytes) = true := hsz0
  have hW' := hW
  obtain ⟨p, q, hA0, hV, rfl, hfz, hnd⟩ := hW
  have hA : DataW.TrodAll enc Try.prog W 0 (fun _ => true) true Try.f7.params.toList args.toList ds p := hA0
  rw [Try.params7] at hA hval hsz
  obtain ⟨v0, vs0, d0, ds0, p0, q0, hargs, rfl, rfl, h0, r0⟩ := trodAll_cons hA
  obtain ⟨v1, vs1, d1, ds1, p1, q1, rfl, rfl, rfl, h1, r1⟩ := trodAll_cons r0
  obtain ⟨v2, vs2, d2, ds2, p2, q2, rfl, rfl, rfl, h2, r2⟩ := trodAll_cons r1
  obtain ⟨rfl, rfl, rfl⟩ := trodAll_nil r2
  obtain rfl : args = #[v0, v1, v2] := by cases args; simp_all
  obtain ⟨rfl, rfl⟩ := trodVars_none hV
  have k0 := h0
  have lt0 : ∀ x ∈ p0, x.block < W.heap.size := by obtain ⟨m, hm⟩ := k0; exact DataW.trod_lt m _ _ _ hm
  obtain ⟨on, SA, slots, sc, when_, TA, ts, tc, rfl, hS, hT, l1, l2, l3⟩ := open_able (hval 0 25 v0 rfl rfl) h0 (fun n hn => by
    have := List.all_eq_true.1 hsz n (DataW.weights_mem_each (j := 0) rfl rfl n hn)
    simpa using this)
  obtain ⟨a1, rfl, rfl, rfl, w1⟩ := open_int Try.underlying2 (hval 1 2 v1 rfl rfl) h1
  obtain ⟨a2, rfl, rfl, rfl, w2⟩ := open_int Try.underlying3 (hval 2 3 v2 rfl rfl) h2
  clear hA0 hval0 hsz hsz0
  have hR : reachBytes = 140737488351232 := rfl
  refine (rounds_any on SA TA slots sc tc when_ ts a1 a2 W (by omega) (by omega) hT hS (fun x hx => by have := l3 x hx; omega)).mono fun e W' ⟨he, bel⟩ => ?_
  subst he
  exact ⟨_, rfl, _, _, _, [], _, [], hW', trodAll_mk1 (shut_bool Try.underlying4 _), (trodAll_cons_mk (Below.trod laidOut_ (by kernel_rfl) (of_decide_eq_true (by kernel_rfl)) k0 bel lt0) (trodAll_cons_mk (shut_int Try.underlying2 w1) (trodAll_cons_mk (shut_int Try.underlying3 w2) trodAll_mk0))), rfl, bel.frame _, fun h => by cases h⟩

/-- The law BoundRounds holds. -/
theorem boundRounds_holds : Rows.BoundRoundsSaid :=
  OpenClaim.holds_of_wide 7 Try.f7 rfl rfl rfl rfl rfl rfl rfl ⟨rfl, rfl, rfl, rfl, rfl⟩ rfl rfl rfl rfl rfl (by kernel_rfl) Try.func7 (by kernel_rfl)
    (of_decide_eq_true (by kernel_rfl)) (by unfold Func.isWrapper; first | (rw [if_pos (by decide +kernel)]; kernel_rfl) | (rw [if_neg (by decide +kernel)]; exact ⟨rfl, rfl⟩))
    (fun os started H enc _ => roundsLifted os started H enc)
end Go.Proofs.Ytggibiodeecljaa
