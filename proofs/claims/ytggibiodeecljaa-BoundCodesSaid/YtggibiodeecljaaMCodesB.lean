/- The reference's small functions: cost, target, place, plus; bound.target and greater. tableauref18.Code: the same as the plain function. Written by gen_code18.py. bound.Code of any bytes: the same as the plain function. Written by gen_codeg.py. Law BoundCodes: its walk. The law BoundCodes holds: at every input it returns true and leaves its arguments as they were. No condition. -/
import Derived.Test.YtggibiodeecljaaMCodesA
import Derived.Test.YtggibiodeecljaaCodeP
import Derived.Test.YtggibiodeecljaaWalk2
import Derived.Test.YtggibiodeecljaaMWalkD
import Derived.Test.YtggibiodeecljaaLives
namespace Go.Proofs.Ytggibiodeecljaa
open Go.RowKit
set_option linter.unusedVariables false

set_option maxRecDepth 100000 in
set_option maxHeartbeats 1000000 in
theorem cost12_any (which number c : Int) (w : World) (hw : which = 0 ∨ which = 1 ∨ which = 2) (h0 : 1 ≤ c) (h1 : c ≤ 256) :
    Calls Try.prog 93 #[.int .i64 which, .int .i64 number, .int .i64 c] w fun e w' => e = .returned (.int .i64 (costR which number c)) ∧ w = w' := by
  obtain ⟨R, hR⟩ : ∃ R, R = costR which number c := ⟨_, rfl⟩
  rw [← hR]
  unfold costR at hR
  have q0 : decide (c ≤ 0) = false := decide_eq_false (by omega)
  have q1 : decide (4611686018427387904 ≤ c) = false := decide_eq_false (by omega)
  rcases hw with rfl | rfl | rfl
  · by_cases hn : number = 10
    · rw [if_pos (by omega)] at hR
      have s1 : (number == 10) = true := beq_true_of hn
      have HR := Lib.hid hR
      clear hR hn
      go_enter Try.func93, Try.ntmps93
      go_wp2_with fail
      go_ret
      exact ⟨ret_i64 HR.out.symm, rfl⟩
    · rw [if_neg (by omega)] at hR
      have s1 : (number == 10) = false := beq_false_of hn
      have HR := Lib.hid hR
      clear hR hn
      go_enter Try.func93, Try.ntmps93
      go_wp2_with fail
      go_ret
      exact ⟨ret_i64 HR.out.symm, rfl⟩
  · by_cases hn : number = 4
    · rw [if_pos (by omega)] at hR
      have s1 : (number == 4) = true := beq_true_of hn
      have HR := Lib.hid hR
      clear hR hn
      go_enter Try.func93, Try.ntmps93
      go_wp2_with fail
      go_ret
      exact ⟨ret_i64 HR.out.symm, rfl⟩
    · rw [if_neg (by omega)] at hR
      have s1 : (number == 4) = false := beq_false_of hn
      have HR := Lib.hid hR
      clear hR hn
      go_enter Try.func93, Try.ntmps93
      go_wp2_with fail
      go_ret
      exact ⟨ret_i64 HR.out.symm, rfl⟩
  · by_cases hn : number = 8
    · rw [if_pos (by omega)] at hR
      have s1 : (number == 8) = true := beq_true_of hn
      have HR := Lib.hid hR
      clear hR hn
      go_enter Try.func93, Try.ntmps93
      go_wp2_with fail
      go_ret
      exact ⟨ret_i64 HR.out.symm, rfl⟩
    · rw [if_neg (by omega)] at hR
      have s1 : (number == 8) = false := beq_false_of hn
      have HR := Lib.hid hR
      clear hR hn
      go_enter Try.func93, Try.ntmps93
      go_wp2_with fail
      go_ret
      exact ⟨ret_i64 HR.out.symm, rfl⟩

set_option maxRecDepth 100000 in
theorem plus_any (a b : Int) (w : World) (ha : IsGas a) (hb : IsGas b) :
    Calls Try.prog 49 #[.int .i64 a, .int .i64 b] w fun e w' => e = .returned (.int .i64 (gadd a b)) ∧ w = w' := by
  have M : maxB = 4611686018427387904 := rfl
  obtain ⟨a0, a1⟩ := ha
  obtain ⟨b0, b1⟩ := hb
  rw [M] at a1 b1
  by_cases h : 4611686018427387904 - b < a
  · have hR : gadd a b = 4611686018427387904 := by unfold gadd; rw [M]; split <;> omega
    rw [hR]
    go_enter Try.func49, Try.ntmps49
    go_wp2
    go_ret
    exact ⟨rfl, rfl⟩
  · have hR : gadd a b = a + b := by unfold gadd; rw [M]; split <;> omega
    rw [hR]
    go_enter Try.func49, Try.ntmps49
    go_wp2
    go_ret
    exact ⟨rfl, rfl⟩

set_option maxRecDepth 100000 in
set_option maxHeartbeats 1000000 in
theorem cost18_any (x : Ins) (c : Int) (w : World) (h0 : 1 ≤ c) (h1 : c ≤ 256) :
    Calls Try.prog 66 #[.agg x.cells, .int .i64 c] w fun e w' => e = .returned (.int .i64 (costI x c)) ∧ Below w.heap.size w w' := by
  have hc := fun which number wx hw => cost12_any which number c wx hw h0 h1
  obtain ⟨xa, xo, xA, xB, xC⟩ := x
  have HC := Lib.hid hc
  simp only [Ins.cells]
  obtain ⟨R, hR⟩ : ∃ R, R = costI ⟨xa, xo, xA, xB, xC⟩ c := ⟨_, rfl⟩
  rw [← hR]
  unfold costI at hR
  simp only at hR
  clear hc
  by_cases q1 : xo = 46
  · subst q1
    rw [if_pos rfl] at hR
    have HR := Lib.hid hR
    clear hR
    go_enter Try.func66, Try.ntmps66
    go_wp2_with fail
    refine (HC.out 0 xA _ (.inl rfl)).mono ?_
    rintro e w1 ⟨rfl, rfl⟩
    go_wp2
    go_ret
    exact ⟨ret_i64 HR.out.symm, (Below.refl _ _).alloc (Nat.le_refl _) _⟩
  rw [if_neg q1] at hR
  by_cases q2 : xo = 44
  · subst q2
    rw [if_pos rfl] at hR
    have HR := Lib.hid hR
    clear hR q1
    go_enter Try.func66, Try.ntmps66
    go_wp2_with fail
    refine (HC.out 1 4 _ (.inr (.inl rfl))).mono ?_
    rintro e w1 ⟨rfl, rfl⟩
    go_wp2
    go_ret
    exact ⟨ret_i64 HR.out.symm, (Below.refl _ _).alloc (Nat.le_refl _) _⟩
  rw [if_neg q2] at hR
  by_cases q3 : xo = 60
  · subst q3
    rw [if_pos rfl] at hR
    have HR := Lib.hid hR
    clear hR q1 q2
    go_enter Try.func66, Try.ntmps66
    go_wp2_with fail
    refine (HC.out 2 xA _ (.inr (.inr rfl))).mono ?_
    rintro e w1 ⟨rfl, rfl⟩
    go_wp2
    go_ret
    exact ⟨ret_i64 HR.out.symm, (Below.refl _ _).alloc (Nat.le_refl _) _⟩
  rw [if_neg q3] at hR
  subst hR
  have p1 : (xo == 46) = false := beq_false_of q1
  have p2 : (xo == 44) = false := beq_false_of q2
  have p3 : (xo == 60) = false := beq_false_of q3
  clear q1 q2 q3
  go_enter Try.func66, Try.ntmps66
  go_wp2
  go_ret
  exact ⟨rfl, (Below.refl _ _).alloc (Nat.le_refl _) _⟩

def tgtV (x : Ins) : Value := match targetI x with | none => .tuple #[.int .i64 0, .bool false] | some t => .tuple #[.int .i64 t, .bool true]
set_option maxRecDepth 100000 in
set_option maxHeartbeats 1000000 in
theorem target18_any (x : Ins) (w : World) : Calls Try.prog 64 #[.agg x.cells] w fun e w' => e = .returned (tgtV x) ∧ Below w.heap.size w w' := by
  obtain ⟨xa, xo, xA, xB, xC⟩ := x
  simp only [Ins.cells]
  obtain ⟨R, hR⟩ : ∃ R, R = tgtV ⟨xa, xo, xA, xB, xC⟩ := ⟨_, rfl⟩
  rw [← hR]
  by_cases q1 : xo = 30 ∨ xo = 31 ∨ xo = 33
  · have hv : R = .tuple #[.int .i64 xA, .bool true] := by rw [hR]; unfold tgtV targetI; simp only [if_pos q1]
    subst hv
    clear hR
    rcases q1 with rfl | rfl | rfl
    all_goals (
      go_enter Try.func64, Try.ntmps64
      go_wp2
      go_ret2
      exact ⟨rfl, (Below.refl _ _).alloc (Nat.le_refl _) _⟩)
  · by_cases q2 : xo = 32
    · have hv : R = .tuple #[.int .i64 xC, .bool true] := by rw [hR]; unfold tgtV targetI; simp only [if_neg q1, if_pos q2]
      subst hv q2
      clear hR q1
      go_enter Try.func64, Try.ntmps64
      go_wp2
      go_ret2
      exact ⟨rfl, (Below.refl _ _).alloc (Nat.le_refl _) _⟩
    · have hv : R = .tuple #[.int .i64 0, .bool false] := by rw [hR]; unfold tgtV targetI; simp only [if_neg q1, if_neg q2]
      have p1 : (xo == 30) = false := beq_false_of (by omega)
      have p2 : (xo == 31) = false := beq_false_of (by omega)
      have p3 : (xo == 33) = false := beq_false_of (by omega)
      have p4 : (xo == 32) = false := beq_false_of (by omega)
      subst hv
      clear hR q1 q2
      go_enter Try.func64, Try.ntmps64
      go_wp2
      go_ret2
      exact ⟨rfl, (Below.refl _ _).alloc (Nat.le_refl _) _⟩

set_option maxRecDepth 100000 in
set_option maxHeartbeats 1000000 in
theorem target_any (x : Ins) (w : World) : Calls Try.prog 61 #[.agg x.cells] w fun e w' => e = .returned (tgtV x) ∧ Below w.heap.size w w' := by
  obtain ⟨xa, xo, xA, xB, xC⟩ := x
  simp only [Ins.cells]
  obtain ⟨R, hR⟩ : ∃ R, R = tgtV ⟨xa, xo, xA, xB, xC⟩ := ⟨_, rfl⟩
  rw [← hR]
  by_cases q1 : xo = 30 ∨ xo = 31 ∨ xo = 33
  · have hv : R = .tuple #[.int .i64 xA, .bool true] := by rw [hR]; unfold tgtV targetI; simp only [if_pos q1]
    subst hv
    clear hR
    rcases q1 with rfl | rfl | rfl
    all_goals (
      go_enter Try.func61, Try.ntmps61
      go_wp2
      go_ret2
      exact ⟨rfl, (Below.refl _ _).alloc (Nat.le_refl _) _⟩)
  · by_cases q2 : xo = 32
    · have hv : R = .tuple #[.int .i64 xC, .bool true] := by rw [hR]; unfold tgtV targetI; simp only [if_neg q1, if_pos q2]
      subst hv q2
      clear hR q1
      go_enter Try.func61, Try.ntmps61
      go_wp2
      go_ret2
      exact ⟨rfl, (Below.refl _ _).alloc (Nat.le_refl _) _⟩
    · have hv : R = .tuple #[.int .i64 0, .bool false] := by rw [hR]; unfold tgtV targetI; simp only [if_neg q1, if_neg q2]
      have p1 : (xo == 30) = false := beq_false_of (by omega)
      have p2 : (xo == 31) = false := beq_false_of (by omega)
      have p3 : (xo == 33) = false := beq_false_of (by omega)
      have p4 : (xo == 32) = false := beq_false_of (by omega)
      subst hv
      clear hR q1 q2
      go_enter Try.func61, Try.ntmps61
      go_wp2
      go_ret2
      exact ⟨rfl, (Below.refl _ _).alloc (Nat.le_refl _) _⟩

set_option maxRecDepth 100000 in
set_option maxHeartbeats 1000000 in
theorem place_any (g n c : Nat) (cs : Array Value) (ins : List Ins) (tg : Int) (w : World) (hn : ins.length = n) (hl : n ≤ 1000000) (hk : Blk w g 101 cs) (hcs : ∀ i x, ins[i]? = some x → ∀ j u, x.cells[j]? = some u → cs[i * 5 + j]? = some u) :
    Calls Try.prog 65 #[.slice (some ⟨g, 0, none⟩) n c, .int .i64 tg] w fun e w' => e = .returned (.int .i64 (match placeM ins tg with | none => -1 | some k => (k : Int))) ∧ w = w' := by
  obtain ⟨R, hR⟩ : ∃ R : Int, R = match placeM ins tg with | none => -1 | some k => (k : Int) := ⟨_, rfl⟩
  rw [← hR]
  have hcell : ∀ i x, ins[i]? = some x → w.cell? ⟨g, i * 5, none⟩ = some (.int .i64 x.at_) := fun i x hx => (hk.cell (i * 5 + 0)).trans (hcs i x hx 0 _ rfl)
  have HC := Lib.hid hcell
  have HN := Lib.hid hn
  have HR := Lib.hid hR
  clear hcell hn hR hk hcs
  go_enter Try.func65, Try.ntmps65
  go_wp2_with fail
  go_loop [5] (fun iv => ∃ j : Nat, j ≤ n ∧ iv = .int .i64 j ∧ Hid (placeM ins tg = (placeM (ins.drop j) tg).map (· + j))) (fun iv => n - (intOf iv).toNat)
  case atStart => exact ⟨0, by omega, rfl, by rw [List.drop_zero]; show _ = Option.map _ _; cases placeM ins tg <;> rfl⟩
  case round =>
    obtain ⟨j, hj, rfl, H⟩ := hrel
    by_cases hlt : j < n
    · obtain ⟨x, hx⟩ : ∃ x, ins[j]? = some x := ⟨_, List.getElem?_eq_getElem (by rw [HN.out]; exact hlt)⟩
      have hcj := HC.out j x hx
      have hdrop : ins.drop j = x :: ins.drop (j + 1) := by
        obtain ⟨h2, h3⟩ := List.getElem?_eq_some_iff.1 hx
        rw [List.drop_eq_getElem_cons h2, h3]
      have hH := H.out
      rw [hdrop, placeM] at hH
      clear hx hdrop
      by_cases he : x.at_ = tg
      · rw [if_pos he] at hH
        have hfin : R = j := by rw [HR.out, hH]; simp
        have HF := Lib.hid hfin
        have s1 : (x.at_ == tg) = true := beq_true_of he
        clear hH hfin he
        go_wp2_with fail
        go_ret
        exact ⟨ret_i64 HF.out.symm, rfl⟩
      · rw [if_neg he, Option.map_map] at hH
        have HH := Lib.hid hH
        have s1 : (x.at_ == tg) = false := beq_false_of he
        clear hH he
        go_wp2_with fail
        go_round
        case rel =>
          refine ⟨j + 1, by omega, by go_num, ?_⟩
          have h := HH.out
          show _ = Option.map _ _
          rw [h]
          congr 1
          funext y
          show y + 1 + j = y + (j + 1)
          omega
        case measure => (simp [intOf]; try omega)
    · have hfin : R = -1 := by
        have := H.out
        rw [List.drop_of_length_le (by rw [HN.out]; omega), placeM] at this
        rw [HR.out, this]
        rfl
      have HF := Lib.hid hfin
      clear hfin
      go_wp2_with fail
      go_ret
      exact ⟨ret_i64 HF.out.symm, rfl⟩
end Go.Proofs.Ytggibiodeecljaa
namespace Go.Proofs.Ytggibiodeecljaa
open Go.RowKit
set_option linter.unusedVariables false

theorem info_long : (Try.prog.info? 2).map (fun i => (i.zero, i.size, i.bytes)) = some (some (.int .i64 0), 1, 8) := by kernel_rfl
def bestC (k : Nat) (bs : List Int) : Array Value := (gvals (List.replicate k 0 ++ bs ++ [0])).toArray
section
variable {n i : Nat} {bs : List Int}
theorem best_at0 (_h : bs.length + (i + 1) = n) : (bestC (i + 1) bs)[i]? = some (.int .i64 0) := by
  unfold bestC gvals
  rw [List.getElem?_toArray, List.getElem?_map, List.append_assoc, List.getElem?_append_left (by simp), List.getElem?_replicate, if_pos (by omega)]
  rfl
theorem best_at1 (_h : bs.length + (i + 1) = n) : (bestC (i + 1) bs)[i + 1]? = some (.int .i64 (bs.headD 0)) := by
  unfold bestC gvals
  rw [List.getElem?_toArray, List.getElem?_map, List.append_assoc, List.getElem?_append_right (by simp)]
  simp only [List.length_replicate, Nat.sub_self]
  cases bs <;> rfl
theorem best_at {k : Nat} (h : bs.length + (i + 1) = n) (h1 : i < k) (h2 : k < n) : (bestC (i + 1) bs)[k]? = some (.int .i64 (bs.getD (k - (i + 1)) 0)) := by
  unfold bestC gvals
  rw [List.getElem?_toArray, List.getElem?_map, List.append_assoc, List.getElem?_append_right (by simp; omega), List.length_replicate, List.getElem?_append_left (by omega), List.getD_eq_getElem?_getD, List.getElem?_eq_getElem (by omega)]
  rfl
theorem best_set (_h : bs.length + (i + 1) = n) {v : Int} : (bestC (i + 1) bs).setIfInBounds i (.int .i64 v) = bestC i (v :: bs) := by
  unfold bestC gvals
  rw [List.setIfInBounds_toArray]
  congr 1
  have e : (List.replicate (i + 1) (0 : Int) ++ bs ++ [0]) = List.replicate i 0 ++ (0 :: (bs ++ [0])) := by
    rw [List.replicate_succ', List.append_assoc, List.append_assoc]
    rfl
  rw [e, List.map_append, List.set_append_right _ _ (by simp)]
  simp
theorem best_head : (bestC 0 bs)[0]? = some (.int .i64 (bs.headD 0)) := by
  unfold bestC gvals
  cases bs <;> rfl
end

set_option maxRecDepth 100000 in
set_option maxHeartbeats 40000000 in
theorem code18_any (A : Option Addr) (l : List Int) (cap : Nat) (cards : Int) (w : World) (hl : l.length ≤ 500000) (hb : BytesAt w A l) :
    Calls Try.prog 26 #[.slice A l.length cap, .int .i64 cards] w fun e w' => e = .returned (.tuple #[.int .i64 (codeM l cards).1, .bool (codeM l cards).2]) ∧ Below w.heap.size w w' := by
  have hA := all16_any A l cap w (by omega) hb
  have hri := allM_rises l l.length 0 [] List.Pairwise.nil (fun y hy => by simp at hy)
  have hle := allM_len l l.length 0 []
  obtain ⟨R, hR⟩ : ∃ R, R = codeM l cards := ⟨_, rfl⟩
  rw [← hR]
  unfold codeM at hR
  obtain ⟨ins, er, pl, hall⟩ : ∃ ins er pl, allM l l.length 0 [] = (ins, er, pl) := ⟨_, _, _, rfl⟩
  rw [hall] at hA hri hle hR
  simp only at hA hri hle hR
  obtain ⟨n, hn⟩ : ∃ n, ins.length = n := ⟨_, rfl⟩
  rw [hn] at hA hle
  simp only [List.length_nil, Nat.zero_add] at hle
  have hn1 : n ≤ 1000000 := by omega
  have HA := Lib.hid hA
  have HN := Lib.hid hn
  have HRI := Lib.hid hri
  clear hA hn hri hall hb
  by_cases herr : ¬ er = 0
  · rw [if_pos (.inl herr)] at hR
    have s1 : (er == 0) = false := beq_false_of herr
    have s0 : (er != 0) = true := by simp [bne, s1]
    have HR := Lib.hid hR
    clear hR
    go_enter Try.func26, Try.ntmps26
    go_wp2_with fail
    refine HA.out.mono ?_
    rintro e w1 ⟨v, rfl, hown, hbel⟩
    have HB := Lib.hid hbel
    clear hown hbel
    go_wp2_with fail
    go_ret2
    exact ⟨by rw [HR.out]; rfl, HB.out⟩
  have herr : er = 0 := by omega
  subst herr
  by_cases hc0 : cards < 1
  · rw [if_pos (.inr (.inl hc0))] at hR
    have s1 : decide (cards < 1) = true := decide_eq_true hc0
    have HR := Lib.hid hR
    clear hR
    go_enter Try.func26, Try.ntmps26
    go_wp2_with fail
    refine HA.out.mono ?_
    rintro e w1 ⟨v, rfl, hown, hbel⟩
    have HB := Lib.hid hbel
    clear hown hbel
    go_wp2_with fail
    go_ret2
    exact ⟨by rw [HR.out]; rfl, HB.out⟩
  by_cases hc1 : 256 < cards
  · rw [if_pos (.inr (.inr hc1))] at hR
    have s1 : decide (cards < 1) = false := decide_eq_false hc0
    have s2 : decide (256 < cards) = true := decide_eq_true hc1
    have HR := Lib.hid hR
    clear hR
    go_enter Try.func26, Try.ntmps26
    go_wp2_with fail
    refine HA.out.mono ?_
    rintro e w1 ⟨v, rfl, hown, hbel⟩
    have HB := Lib.hid hbel
    clear hown hbel
    go_wp2_with fail
    go_ret2
    exact ⟨by rw [HR.out]; rfl, HB.out⟩
  rw [if_neg (by omega)] at hR
  have s1 : decide (cards < 1) = false := decide_eq_false hc0
  have s2 : decide (256 < cards) = false := decide_eq_false hc1
  have hmk : ∀ wx, (Instr.makeSlice 26 (.int .i64 ((n : Int) + 1)) (.int .i64 ((n : Int) + 1))).run Try.prog wx = .ok (.slice (some ⟨wx.heap.size, 0, none⟩) (n + 1) (n + 1)) (wx.alloc (.cells (bestC n []) 2)) := by
    intro wx
    have h := run_make_row' (P := Try.prog) 26 2 (.int .i64 0) 8 Try.underlying26 info_long rfl .i64 .i64 (n + 1) (by omega) (by omega) wx
    simp only [made_gvals] at h
    have e : bestC n [] = (gvals (List.replicate (n + 1) 0)).toArray := by unfold bestC; rw [List.append_nil, List.replicate_succ']
    rw [e]
    exact h
  have HR := Lib.hid hR
  clear hR
  by_cases hz : n = 0
  · subst hz
    have hins : ins = [] := List.length_eq_zero_iff.1 HN.out
    subst hins
    have hmk0 : ∀ wx, (Instr.makeSlice 26 (.int .i64 1) (.int .i64 1)).run Try.prog wx = .ok (.slice (some ⟨wx.heap.size, 0, none⟩) 1 1) (wx.alloc (.cells (#[.int .i64 0]) 2)) := hmk
    clear hmk
    go_enter Try.func26, Try.ntmps26
    go_wp2_with fail
    refine HA.out.mono ?_
    rintro e w1 ⟨v, rfl, hown, hbel⟩
    obtain ⟨A1, c1, rfl⟩ := own_form hown
    have kb := Blk.new w1 2 (#[.int .i64 0])
    have k0 := kb.cell 0
    have HB := Lib.hid (hbel.alloc hbel.size (.cells (#[.int .i64 0]) 2))
    clear hown hbel kb
    go_wp2_with fail
    go_loopw [10, 11, 12, 13, 14, 15] (fun iv _ _ _ _ _ wr => iv = .int .i64 (-1) ∧ wr = w1.alloc (.cells #[.int .i64 0] 2)) (fun _ _ _ _ _ _ _ => 0)
    case atStart => exact ⟨by first | rfl | simp, rfl⟩
    case round =>
      obtain ⟨rfl, rfl⟩ := hrel
      go_wp2_with fail
      go_ret2
      exact ⟨by rw [HR.out]; rfl, HB.out⟩
  have hpos : 0 < n := by omega
  have hcg : ∀ op xa xA xB xC, 1 ≤ costI ⟨xa, op, xA, xB, xC⟩ cards ∧ costI ⟨xa, op, xA, xB, xC⟩ cards ≤ 257 := fun op xa xA xB xC => costI_gas (by omega) (by omega)
  have hcs' := fun x wx => cost18_any x cards wx (by omega) (by omega)
  have hbf := fun k bs (h : bestM cards (ins.drop k) = some bs) => bestM_facts (c := cards) (by omega) (by omega) (ins.drop k) bs h
  have HCG := Lib.hid hcg
  have HCC := Lib.hid hcs'
  have HBF0 := Lib.hid hbf
  clear hcg hcs' hbf
  go_enter Try.func26, Try.ntmps26
  go_wp2_with fail
  refine HA.out.mono ?_
  rintro e w1 ⟨v, rfl, hown, hbel⟩
  obtain ⟨g, cp, cs, rfl, hbg, hblk, hcs⟩ := ins_row hown HN.out hpos
  have hglt := hblk.lt
  have hz0 := hbel.size
  have HKB := Lib.hid (Blk.new w1 2 (bestC n []))
  have HKG := Lib.hid (hblk.alloc (.cells (bestC n []) 2))
  have HB0 := Lib.hid (hbel.alloc hbel.size (.cells (bestC n []) 2))
  have HCS := Lib.hid hcs
  clear hown hbel hblk hcs
  go_wp2_with fail
  go_loopw [10, 11, 12, 13, 14, 15] (fun iv _ _ _ _ _ wr => ∃ (k : Nat) (bs : List Int), k ≤ n ∧ iv = .int .i64 ((k : Int) - 1) ∧ Hid (bestM cards (ins.drop k) = some bs) ∧ Blk wr w1.heap.size 2 (bestC k bs) ∧ Blk wr g 101 cs ∧ Below w.heap.size w wr ∧ w1.heap.size < wr.heap.size)
    (fun iv _ _ _ _ _ _ => (intOf iv + 1).toNat)
  case atStart => exact ⟨n, [], by omega, by first | rfl | (congr 1; omega), by rw [List.drop_of_length_le (by rw [HN.out]; omega)]; rfl, HKB.out, HKG.out, HB0.out, by simp⟩
  case round =>
    obtain ⟨k, bs, hk, rfl, HBM, hkb, hkg, hbel, hsz⟩ := hrel
    by_cases hk0 : k = 0
    · subst hk0
      have hfin : R = (bs.headD 0, true) := by
        have := HBM.out
        rw [List.drop_zero] at this
        rw [HR.out, this]
      have k0 := hkb.cell 0
      rw [best_head] at k0
      obtain ⟨hd, hhd⟩ : ∃ hd, hd = bs.headD 0 := ⟨_, rfl⟩
      rw [← hhd] at k0 hfin
      have HFIN := Lib.hid hfin
      clear hhd
      have HBE := Lib.hid hbel
      have hneg : (((0 : Nat) : Int) - 1) = -1 := by omega
      rw [hneg]
      clear hfin hkb hkg hbel
      go_wp2_with fail
      go_ret2
      exact ⟨by rw [HFIN.out]; rfl, HBE.out⟩
    · obtain ⟨i, rfl⟩ : ∃ i, k = i + 1 := ⟨k - 1, by omega⟩
      have hi1 : ((i + 1 : Nat) : Int) - 1 = (i : Int) := by omega
      rw [hi1]
      have hiI : (i : Int) < n := by omega
      have hiN : i < n + 1 := by omega
      have hiN1 : i + 1 < n + 1 := by omega
      obtain ⟨x, hx⟩ : ∃ x, ins[i]? = some x := ⟨_, List.getElem?_eq_getElem (by rw [HN.out]; omega)⟩
      have hdrop : ins.drop i = x :: ins.drop (i + 1) := by
        obtain ⟨h2, h3⟩ := List.getElem?_eq_some_iff.1 hx
        rw [List.drop_eq_getElem_cons h2, h3]
      obtain ⟨hbl, hbg2⟩ := HBF0.out (i + 1) bs HBM.out
      rw [List.length_drop, HN.out] at hbl
      have hbl2 : bs.length + (i + 1) = n := by omega
      have hg0 : IsGas (bs.headD 0) := by
        have := getD_gas hbg2 0
        cases bs <;> simpa using this
      obtain ⟨hd, hhd⟩ : ∃ hd, hd = bs.headD 0 := ⟨_, rfl⟩
      rw [← hhd] at hg0
      have HHD := Lib.hid hhd
      have HG0 := Lib.hid hg0
      have HBL := Lib.hid hbl2
      have HBG := Lib.hid hbg2
      have HDR0 := Lib.hid hdrop
      obtain ⟨xa, xo, xA, xB, xC⟩ := x
      have r0 : wr.cell? ⟨g, i * 5, none⟩ = some (.int .i64 xa) := (hkg.cell (i * 5 + 0)).trans (HCS.out i _ hx 0 _ rfl)
      have r1 : wr.cell? ⟨g, i * 5 + 1, none⟩ = some (.int .u8 xo) := (hkg.cell (i * 5 + 1)).trans (HCS.out i _ hx 1 _ rfl)
      have r2 : wr.cell? ⟨g, i * 5 + 2, none⟩ = some (.int .i64 xA) := (hkg.cell (i * 5 + 2)).trans (HCS.out i _ hx 2 _ rfl)
      have r3 : wr.cell? ⟨g, i * 5 + 3, none⟩ = some (.int .i64 xB) := (hkg.cell (i * 5 + 3)).trans (HCS.out i _ hx 3 _ rfl)
      have r4 : wr.cell? ⟨g, i * 5 + 4, none⟩ = some (.int .i64 xC) := (hkg.cell (i * 5 + 4)).trans (HCS.out i _ hx 4 _ rfl)
      have hgl := hkg.lt
      have HBK := Lib.hid hkb
      have HGK := Lib.hid hkg
      have HBE := Lib.hid hbel
      have hTG := fun op wx => target18_any ⟨xa, op, xA, xB, xC⟩ wx
      have hCO := fun op wx => HCC.out ⟨xa, op, xA, xB, xC⟩ wx
      simp only [Ins.cells] at hTG hCO
      have HTG := Lib.hid hTG
      have HCO := Lib.hid hCO
      have hCG := fun op => HCG.out op xa xA xB xC
      clear HCG
      have HCG := Lib.hid hCG
      have hB0 := HBE.out.size
      have HDR := HDR0
      clear hx hdrop hhd hbl hbl2 hbg2 hg0 hkb hkg hbel hTG hCO hCG HDR0
      by_cases q30 : xo = 30
      · subst q30
        obtain ⟨tg, hti⟩ : ∃ tg, targetI ⟨xa, 30, xA, xB, xC⟩ = some tg := ⟨_, rfl⟩
        have HTI := Lib.hid hti
        clear hti
        go_wp2_with fail
        refine (HTG.out 30 _).mono ?_
        rintro e w2 ⟨rfl, hb2⟩
        have hz2 := hb2.size
        simp only [World.size_alloc] at hz2
        have x2 := (Blk.new wr 101 #[.int .i64 xa, .int .u8 30, .int .i64 xA, .int .i64 xB, .int .i64 xC]).below hb2 (by simp)
        have x20 := x2.cell 0
        have x21 := x2.cell 1
        have x22 := x2.cell 2
        have x23 := x2.cell 3
        have x24 := x2.cell 4
        have B2 : Below wr.heap.size wr w2 := ((Below.refl _ _).alloc (Nat.le_refl _) _).trans (hb2.mono (by simp))
        have kb2 := HBK.out.below B2 (by omega)
        have kg2 := HGK.out.below B2 hgl
        have HKG2 := Lib.hid kg2
        have HKB2 := Lib.hid kb2
        clear hb2 x2 kb2 kg2
        rw [show tgtV ⟨xa, 30, xA, xB, xC⟩ = .tuple #[.int .i64 tg, .bool true] by unfold tgtV; rw [HTI.out]]
        go_wp2_with fail
        refine (place_any g n cp cs ins tg _ HN.out hn1 HKG2.out HCS.out).mono ?_
        rintro e w2' ⟨rfl, rfl⟩
        have hnone : placeM (ins.drop (i + 1)) tg = none → bestM cards ins = none := fun h => bestM_none i ins (by rw [HDR.out, bestM, HBM.out]; simp only; rw [show targetI ⟨xa, 30, xA, xB, xC⟩ = some tg from HTI.out]; simp only; rw [h])
        have HBF := Lib.hid (HBE.out.trans (B2.mono (by omega)))
        rcases place_split i ins tg HRI.out (by rw [HN.out]; omega) with ⟨h1, h2⟩ | ⟨kk, h1, ⟨h2, h3⟩ | ⟨h2, h3⟩⟩
        · rw [h1]
          have HBN := Lib.hid (hnone h2)
          clear h1 h2 hnone B2
          simp only
          go_wp2_with fail
          go_ret2
          exact ⟨by rw [HR.out, HBN.out]; rfl, HBF.out⟩
        · rw [h1]
          have HBN := Lib.hid (hnone h3)
          have hm1 : (kk : Int) ≤ i := by omega
          clear h1 h3 hnone B2
          simp only
          go_wp2_with fail
          go_ret2
          exact ⟨by rw [HR.out, HBN.out]; rfl, HBF.out⟩
        · rw [h1]
          have hkn := placeM_lt h1
          rw [HN.out] at hkn
          have hm1 : (i : Int) < kk := by omega
          have hkI : (kk : Int) < n + 1 := by omega
          have hkN : kk < n + 1 := by omega
          have t1 := HKB2.out.cell kk
          rw [best_at HBL.out h2 hkn] at t1
          obtain ⟨bk, hbk⟩ : ∃ bk, bk = bs.getD (kk - (i + 1)) 0 := ⟨_, rfl⟩
          have hbkg : IsGas bk := by rw [hbk]; exact getD_gas HBG.out _
          rw [← hbk] at t1
          have HBKE := Lib.hid hbk
          have H3 := Lib.hid h3
          have hbk0 : 0 ≤ bk := hbkg.1
          have HBKG := Lib.hid hbkg
          clear h1 h3 hbk hnone hbkg
          simp only
          by_cases hlt3 : 0 < bk
          · go_wp2_with fail
            refine (HCO.out 30 _).mono ?_
            rintro e w3 ⟨rfl, hb3⟩
            have hz3 := hb3.size
            have B3 := B2.trans (hb3.mono (by omega))
            have kb3 := HBK.out.below B3 (by omega)
            have kg3 := HGK.out.below B3 hgl
            have HB3 := Lib.hid (HBE.out.trans (B3.mono (by omega)))
            have HKB3 := Lib.hid kb3
            have HKG3 := Lib.hid kg3
            obtain ⟨co, hco⟩ : ∃ co, co = costI ⟨xa, 30, xA, xB, xC⟩ cards := ⟨_, rfl⟩
            rw [← hco]
            have hcog : IsGas co := by have := HCG.out 30; rw [← hco] at this; unfold IsGas maxB; omega
            have HCOE := Lib.hid hco
            clear kg3 kb3 hb3 B3 B2 hco
            go_wp2_with fail
            refine (plus_any co bk _ hcog HBKG.out).mono ?_
            rintro e w4 ⟨rfl, rfl⟩
            obtain ⟨nv, hnv⟩ : ∃ nv, nv = gadd co bk := ⟨_, rfl⟩
            rw [← hnv]
            have HNV := Lib.hid hnv
            clear hnv hcog
            have u1 := HKB3.out.cell i
            have u2 := HKB3.out.frozen i
            rw [best_at0 HBL.out] at u1
            go_wp2_with fail
            go_roundw
            case rel =>
              refine ⟨i, nv :: bs, by omega, by go_num, ?_, ?_, HKG3.out.far (p := ⟨w1.heap.size, i, none⟩) (by show g ≠ w1.heap.size; omega) _, HB3.out.setCell (p := ⟨w1.heap.size, i, none⟩) (by show w.heap.size ≤ w1.heap.size; omega) _, by simp [World.setCell]; omega⟩
              · show bestM cards (ins.drop i) = _
                rw [HDR.out, bestM, HBM.out]
                rw [show targetI ⟨xa, 30, xA, xB, xC⟩ = some tg from HTI.out]
                simp only
                rw [H3.out]
                simp only
                rw [(show ownI ⟨xa, 30, xA, xB, xC⟩ bs = 0 by unfold ownI; rw [if_pos (by rfl)]), ← HBKE.out, show max 0 bk = bk by omega, HNV.out, HCOE.out]
              · have := HKB3.out.set_ i (.int .i64 nv)
                rw [best_set HBL.out] at this
                exact this
            case measure => (simp [intOf]; try omega)
          · have hb0 : bk = 0 := by omega
            subst hb0
            clear hlt3
            go_wp2_with fail
            refine (HCO.out 30 _).mono ?_
            rintro e w3 ⟨rfl, hb3⟩
            have hz3 := hb3.size
            have B3 := B2.trans (hb3.mono (by omega))
            have kb3 := HBK.out.below B3 (by omega)
            have kg3 := HGK.out.below B3 hgl
            have HB3 := Lib.hid (HBE.out.trans (B3.mono (by omega)))
            have HKB3 := Lib.hid kb3
            have HKG3 := Lib.hid kg3
            obtain ⟨co, hco⟩ : ∃ co, co = costI ⟨xa, 30, xA, xB, xC⟩ cards := ⟨_, rfl⟩
            rw [← hco]
            have hcog : IsGas co := by have := HCG.out 30; rw [← hco] at this; unfold IsGas maxB; omega
            have HCOE := Lib.hid hco
            clear kg3 kb3 hb3 B3 B2 hco
            go_wp2_with fail
            refine (plus_any co 0 _ hcog zero_gas).mono ?_
            rintro e w4 ⟨rfl, rfl⟩
            obtain ⟨nv, hnv⟩ : ∃ nv, nv = gadd co 0 := ⟨_, rfl⟩
            rw [← hnv]
            have HNV := Lib.hid hnv
            clear hnv hcog
            have u1 := HKB3.out.cell i
            have u2 := HKB3.out.frozen i
            rw [best_at0 HBL.out] at u1
            go_wp2_with fail
            go_roundw
            case rel =>
              refine ⟨i, nv :: bs, by omega, by go_num, ?_, ?_, HKG3.out.far (p := ⟨w1.heap.size, i, none⟩) (by show g ≠ w1.heap.size; omega) _, HB3.out.setCell (p := ⟨w1.heap.size, i, none⟩) (by show w.heap.size ≤ w1.heap.size; omega) _, by simp [World.setCell]; omega⟩
              · show bestM cards (ins.drop i) = _
                rw [HDR.out, bestM, HBM.out]
                rw [show targetI ⟨xa, 30, xA, xB, xC⟩ = some tg from HTI.out]
                simp only
                rw [H3.out]
                simp only
                rw [(show ownI ⟨xa, 30, xA, xB, xC⟩ bs = 0 by unfold ownI; rw [if_pos (by rfl)]), ← HBKE.out, show max (0 : Int) 0 = 0 by rfl, HNV.out, HCOE.out]
              · have := HKB3.out.set_ i (.int .i64 nv)
                rw [best_set HBL.out] at this
                exact this
            case measure => (simp [intOf]; try omega)
      by_cases q34 : xo = 34
      · subst q34
        have HTI : Hid (targetI ⟨xa, 34, xA, xB, xC⟩ = none) := rfl
        go_wp2_with fail
        refine (HTG.out 34 _).mono ?_
        rintro e w2 ⟨rfl, hb2⟩
        have hz2 := hb2.size
        simp only [World.size_alloc] at hz2
        have x2 := (Blk.new wr 101 #[.int .i64 xa, .int .u8 34, .int .i64 xA, .int .i64 xB, .int .i64 xC]).below hb2 (by simp)
        have x20 := x2.cell 0
        have x21 := x2.cell 1
        have x22 := x2.cell 2
        have x23 := x2.cell 3
        have x24 := x2.cell 4
        have B2 : Below wr.heap.size wr w2 := ((Below.refl _ _).alloc (Nat.le_refl _) _).trans (hb2.mono (by simp))
        have kb2 := HBK.out.below B2 (by omega)
        have kg2 := HGK.out.below B2 hgl
        have HKG2 := Lib.hid kg2
        have HKB2 := Lib.hid kb2
        clear hb2 x2 kb2 kg2
        rw [show tgtV ⟨xa, 34, xA, xB, xC⟩ = .tuple #[.int .i64 0, .bool false] by unfold tgtV; rw [HTI.out]]
        go_wp2_with fail
        refine (HCO.out 34 _).mono ?_
        rintro e w3 ⟨rfl, hb3⟩
        have hz3 := hb3.size
        have B3 := B2.trans (hb3.mono (by omega))
        have kb3 := HBK.out.below B3 (by omega)
        have kg3 := HGK.out.below B3 hgl
        have HB3 := Lib.hid (HBE.out.trans (B3.mono (by omega)))
        have HKB3 := Lib.hid kb3
        have HKG3 := Lib.hid kg3
        obtain ⟨co, hco⟩ : ∃ co, co = costI ⟨xa, 34, xA, xB, xC⟩ cards := ⟨_, rfl⟩
        rw [← hco]
        have hcog : IsGas co := by have := HCG.out 34; rw [← hco] at this; unfold IsGas maxB; omega
        have HCOE := Lib.hid hco
        clear kg3 kb3 hb3 B3 B2 hco
        go_wp2_with fail
        refine (plus_any co 0 _ hcog zero_gas).mono ?_
        rintro e w4 ⟨rfl, rfl⟩
        obtain ⟨nv, hnv⟩ : ∃ nv, nv = gadd co 0 := ⟨_, rfl⟩
        rw [← hnv]
        have HNV := Lib.hid hnv
        clear hnv hcog
        have u1 := HKB3.out.cell i
        have u2 := HKB3.out.frozen i
        rw [best_at0 HBL.out] at u1
        go_wp2_with fail
        go_roundw
        case rel =>
          refine ⟨i, nv :: bs, by omega, by go_num, ?_, ?_, HKG3.out.far (p := ⟨w1.heap.size, i, none⟩) (by show g ≠ w1.heap.size; omega) _, HB3.out.setCell (p := ⟨w1.heap.size, i, none⟩) (by show w.heap.size ≤ w1.heap.size; omega) _, by simp [World.setCell]; omega⟩
          · show bestM cards (ins.drop i) = _
            rw [HDR.out, bestM, HBM.out]
            rw [show targetI ⟨xa, 34, xA, xB, xC⟩ = none from HTI.out]
            simp only
            rw [HNV.out, HCOE.out]
            rfl
          · have := HKB3.out.set_ i (.int .i64 nv)
            rw [best_set HBL.out] at this
            exact this
        case measure => (simp [intOf]; try omega)
      by_cases q35 : xo = 35
      · subst q35
        have HTI : Hid (targetI ⟨xa, 35, xA, xB, xC⟩ = none) := rfl
        go_wp2_with fail
        refine (HTG.out 35 _).mono ?_
        rintro e w2 ⟨rfl, hb2⟩
        have hz2 := hb2.size
        simp only [World.size_alloc] at hz2
        have x2 := (Blk.new wr 101 #[.int .i64 xa, .int .u8 35, .int .i64 xA, .int .i64 xB, .int .i64 xC]).below hb2 (by simp)
        have x20 := x2.cell 0
        have x21 := x2.cell 1
        have x22 := x2.cell 2
        have x23 := x2.cell 3
        have x24 := x2.cell 4
        have B2 : Below wr.heap.size wr w2 := ((Below.refl _ _).alloc (Nat.le_refl _) _).trans (hb2.mono (by simp))
        have kb2 := HBK.out.below B2 (by omega)
        have kg2 := HGK.out.below B2 hgl
        have HKG2 := Lib.hid kg2
        have HKB2 := Lib.hid kb2
        clear hb2 x2 kb2 kg2
        rw [show tgtV ⟨xa, 35, xA, xB, xC⟩ = .tuple #[.int .i64 0, .bool false] by unfold tgtV; rw [HTI.out]]
        go_wp2_with fail
        refine (HCO.out 35 _).mono ?_
        rintro e w3 ⟨rfl, hb3⟩
        have hz3 := hb3.size
        have B3 := B2.trans (hb3.mono (by omega))
        have kb3 := HBK.out.below B3 (by omega)
        have kg3 := HGK.out.below B3 hgl
        have HB3 := Lib.hid (HBE.out.trans (B3.mono (by omega)))
        have HKB3 := Lib.hid kb3
        have HKG3 := Lib.hid kg3
        obtain ⟨co, hco⟩ : ∃ co, co = costI ⟨xa, 35, xA, xB, xC⟩ cards := ⟨_, rfl⟩
        rw [← hco]
        have hcog : IsGas co := by have := HCG.out 35; rw [← hco] at this; unfold IsGas maxB; omega
        have HCOE := Lib.hid hco
        clear kg3 kb3 hb3 B3 B2 hco
        go_wp2_with fail
        refine (plus_any co 0 _ hcog zero_gas).mono ?_
        rintro e w4 ⟨rfl, rfl⟩
        obtain ⟨nv, hnv⟩ : ∃ nv, nv = gadd co 0 := ⟨_, rfl⟩
        rw [← hnv]
        have HNV := Lib.hid hnv
        clear hnv hcog
        have u1 := HKB3.out.cell i
        have u2 := HKB3.out.frozen i
        rw [best_at0 HBL.out] at u1
        go_wp2_with fail
        go_roundw
        case rel =>
          refine ⟨i, nv :: bs, by omega, by go_num, ?_, ?_, HKG3.out.far (p := ⟨w1.heap.size, i, none⟩) (by show g ≠ w1.heap.size; omega) _, HB3.out.setCell (p := ⟨w1.heap.size, i, none⟩) (by show w.heap.size ≤ w1.heap.size; omega) _, by simp [World.setCell]; omega⟩
          · show bestM cards (ins.drop i) = _
            rw [HDR.out, bestM, HBM.out]
            rw [show targetI ⟨xa, 35, xA, xB, xC⟩ = none from HTI.out]
            simp only
            rw [HNV.out, HCOE.out]
            rfl
          · have := HKB3.out.set_ i (.int .i64 nv)
            rw [best_set HBL.out] at this
            exact this
        case measure => (simp [intOf]; try omega)
      have s1 : (xo == 30) = false := beq_false_of q30
      have s2 : (xo == 34) = false := beq_false_of q34
      have s3 : (xo == 35) = false := beq_false_of q35
      have hst : stopI ⟨xa, xo, xA, xB, xC⟩ = false := by unfold stopI; simp only; rw [s1, s2, s3]; rfl
      have HST := Lib.hid hst
      clear hst
      have t0 := HBK.out.cell (i + 1)
      rw [best_at1 HBL.out, ← HHD.out] at t0
      cases hti : targetI ⟨xa, xo, xA, xB, xC⟩ with
      | none =>
        have HTI := Lib.hid hti
        clear hti
        go_wp2_with fail
        refine (HTG.out xo _).mono ?_
        rintro e w2 ⟨rfl, hb2⟩
        have hz2 := hb2.size
        simp only [World.size_alloc] at hz2
        have x2 := (Blk.new wr 101 #[.int .i64 xa, .int .u8 xo, .int .i64 xA, .int .i64 xB, .int .i64 xC]).below hb2 (by simp)
        have x20 := x2.cell 0
        have x21 := x2.cell 1
        have x22 := x2.cell 2
        have x23 := x2.cell 3
        have x24 := x2.cell 4
        have B2 : Below wr.heap.size wr w2 := ((Below.refl _ _).alloc (Nat.le_refl _) _).trans (hb2.mono (by simp))
        have kb2 := HBK.out.below B2 (by omega)
        have kg2 := HGK.out.below B2 hgl
        have HKG2 := Lib.hid kg2
        have HKB2 := Lib.hid kb2
        clear hb2 x2 kb2 kg2
        rw [show tgtV ⟨xa, xo, xA, xB, xC⟩ = .tuple #[.int .i64 0, .bool false] by unfold tgtV; rw [HTI.out]]
        go_wp2_with fail
        refine (HCO.out xo _).mono ?_
        rintro e w3 ⟨rfl, hb3⟩
        have hz3 := hb3.size
        have B3 := B2.trans (hb3.mono (by omega))
        have kb3 := HBK.out.below B3 (by omega)
        have kg3 := HGK.out.below B3 hgl
        have HB3 := Lib.hid (HBE.out.trans (B3.mono (by omega)))
        have HKB3 := Lib.hid kb3
        have HKG3 := Lib.hid kg3
        obtain ⟨co, hco⟩ : ∃ co, co = costI ⟨xa, xo, xA, xB, xC⟩ cards := ⟨_, rfl⟩
        rw [← hco]
        have hcog : IsGas co := by have := HCG.out xo; rw [← hco] at this; unfold IsGas maxB; omega
        have HCOE := Lib.hid hco
        clear kg3 kb3 hb3 B3 B2 hco
        go_wp2_with fail
        refine (plus_any co hd _ hcog HG0.out).mono ?_
        rintro e w4 ⟨rfl, rfl⟩
        obtain ⟨nv, hnv⟩ : ∃ nv, nv = gadd co hd := ⟨_, rfl⟩
        rw [← hnv]
        have HNV := Lib.hid hnv
        clear hnv hcog
        have u1 := HKB3.out.cell i
        have u2 := HKB3.out.frozen i
        rw [best_at0 HBL.out] at u1
        go_wp2_with fail
        go_roundw
        case rel =>
          refine ⟨i, nv :: bs, by omega, by go_num, ?_, ?_, HKG3.out.far (p := ⟨w1.heap.size, i, none⟩) (by show g ≠ w1.heap.size; omega) _, HB3.out.setCell (p := ⟨w1.heap.size, i, none⟩) (by show w.heap.size ≤ w1.heap.size; omega) _, by simp [World.setCell]; omega⟩
          · show bestM cards (ins.drop i) = _
            rw [HDR.out, bestM, HBM.out]
            rw [show targetI ⟨xa, xo, xA, xB, xC⟩ = none from HTI.out]
            simp only
            rw [HNV.out, HCOE.out]
            unfold ownI
            rw [if_neg (by rw [HST.out]; decide), HHD.out]
          · have := HKB3.out.set_ i (.int .i64 nv)
            rw [best_set HBL.out] at this
            exact this
        case measure => (simp [intOf]; try omega)
      | some tg =>
        have HTI := Lib.hid hti
        clear hti
        go_wp2_with fail
        refine (HTG.out xo _).mono ?_
        rintro e w2 ⟨rfl, hb2⟩
        have hz2 := hb2.size
        simp only [World.size_alloc] at hz2
        have x2 := (Blk.new wr 101 #[.int .i64 xa, .int .u8 xo, .int .i64 xA, .int .i64 xB, .int .i64 xC]).below hb2 (by simp)
        have x20 := x2.cell 0
        have x21 := x2.cell 1
        have x22 := x2.cell 2
        have x23 := x2.cell 3
        have x24 := x2.cell 4
        have B2 : Below wr.heap.size wr w2 := ((Below.refl _ _).alloc (Nat.le_refl _) _).trans (hb2.mono (by simp))
        have kb2 := HBK.out.below B2 (by omega)
        have kg2 := HGK.out.below B2 hgl
        have HKG2 := Lib.hid kg2
        have HKB2 := Lib.hid kb2
        clear hb2 x2 kb2 kg2
        rw [show tgtV ⟨xa, xo, xA, xB, xC⟩ = .tuple #[.int .i64 tg, .bool true] by unfold tgtV; rw [HTI.out]]
        go_wp2_with fail
        refine (place_any g n cp cs ins tg _ HN.out hn1 HKG2.out HCS.out).mono ?_
        rintro e w2' ⟨rfl, rfl⟩
        have hnone : placeM (ins.drop (i + 1)) tg = none → bestM cards ins = none := fun h => bestM_none i ins (by rw [HDR.out, bestM, HBM.out]; simp only; rw [show targetI ⟨xa, xo, xA, xB, xC⟩ = some tg from HTI.out]; simp only; rw [h])
        have HBF := Lib.hid (HBE.out.trans (B2.mono (by omega)))
        rcases place_split i ins tg HRI.out (by rw [HN.out]; omega) with ⟨h1, h2⟩ | ⟨kk, h1, ⟨h2, h3⟩ | ⟨h2, h3⟩⟩
        · rw [h1]
          have HBN := Lib.hid (hnone h2)
          clear h1 h2 hnone B2
          simp only
          go_wp2_with fail
          go_ret2
          exact ⟨by rw [HR.out, HBN.out]; rfl, HBF.out⟩
        · rw [h1]
          have HBN := Lib.hid (hnone h3)
          have hm1 : (kk : Int) ≤ i := by omega
          clear h1 h3 hnone B2
          simp only
          go_wp2_with fail
          go_ret2
          exact ⟨by rw [HR.out, HBN.out]; rfl, HBF.out⟩
        · rw [h1]
          have hkn := placeM_lt h1
          rw [HN.out] at hkn
          have hm1 : (i : Int) < kk := by omega
          have hkI : (kk : Int) < n + 1 := by omega
          have hkN : kk < n + 1 := by omega
          have t1 := HKB2.out.cell kk
          rw [best_at HBL.out h2 hkn] at t1
          obtain ⟨bk, hbk⟩ : ∃ bk, bk = bs.getD (kk - (i + 1)) 0 := ⟨_, rfl⟩
          have hbkg : IsGas bk := by rw [hbk]; exact getD_gas HBG.out _
          rw [← hbk] at t1
          have HBKE := Lib.hid hbk
          have H3 := Lib.hid h3
          have hbk0 : 0 ≤ bk := hbkg.1
          have HBKG := Lib.hid hbkg
          clear h1 h3 hbk hnone hbkg
          simp only
          rcases Int.lt_trichotomy hd bk with hlt3 | hlt3 | hlt3
          · go_wp2_with fail
            refine (HCO.out xo _).mono ?_
            rintro e w3 ⟨rfl, hb3⟩
            have hz3 := hb3.size
            have B3 := B2.trans (hb3.mono (by omega))
            have kb3 := HBK.out.below B3 (by omega)
            have kg3 := HGK.out.below B3 hgl
            have HB3 := Lib.hid (HBE.out.trans (B3.mono (by omega)))
            have HKB3 := Lib.hid kb3
            have HKG3 := Lib.hid kg3
            obtain ⟨co, hco⟩ : ∃ co, co = costI ⟨xa, xo, xA, xB, xC⟩ cards := ⟨_, rfl⟩
            rw [← hco]
            have hcog : IsGas co := by have := HCG.out xo; rw [← hco] at this; unfold IsGas maxB; omega
            have HCOE := Lib.hid hco
            clear kg3 kb3 hb3 B3 B2 hco
            go_wp2_with fail
            refine (plus_any co bk _ hcog HBKG.out).mono ?_
            rintro e w4 ⟨rfl, rfl⟩
            obtain ⟨nv, hnv⟩ : ∃ nv, nv = gadd co bk := ⟨_, rfl⟩
            rw [← hnv]
            have HNV := Lib.hid hnv
            clear hnv hcog
            have u1 := HKB3.out.cell i
            have u2 := HKB3.out.frozen i
            rw [best_at0 HBL.out] at u1
            go_wp2_with fail
            go_roundw
            case rel =>
              refine ⟨i, nv :: bs, by omega, by go_num, ?_, ?_, HKG3.out.far (p := ⟨w1.heap.size, i, none⟩) (by show g ≠ w1.heap.size; omega) _, HB3.out.setCell (p := ⟨w1.heap.size, i, none⟩) (by show w.heap.size ≤ w1.heap.size; omega) _, by simp [World.setCell]; omega⟩
              · show bestM cards (ins.drop i) = _
                rw [HDR.out, bestM, HBM.out]
                rw [show targetI ⟨xa, xo, xA, xB, xC⟩ = some tg from HTI.out]
                simp only
                rw [H3.out]
                simp only
                rw [(show ownI ⟨xa, xo, xA, xB, xC⟩ bs = hd by unfold ownI; rw [if_neg (by rw [HST.out]; decide), HHD.out]), ← HBKE.out, show max hd bk = bk by omega, HNV.out, HCOE.out]
              · have := HKB3.out.set_ i (.int .i64 nv)
                rw [best_set HBL.out] at this
                exact this
            case measure => (simp [intOf]; try omega)
          · subst hlt3
            go_wp2_with fail
            refine (HCO.out xo _).mono ?_
            rintro e w3 ⟨rfl, hb3⟩
            have hz3 := hb3.size
            have B3 := B2.trans (hb3.mono (by omega))
            have kb3 := HBK.out.below B3 (by omega)
            have kg3 := HGK.out.below B3 hgl
            have HB3 := Lib.hid (HBE.out.trans (B3.mono (by omega)))
            have HKB3 := Lib.hid kb3
            have HKG3 := Lib.hid kg3
            obtain ⟨co, hco⟩ : ∃ co, co = costI ⟨xa, xo, xA, xB, xC⟩ cards := ⟨_, rfl⟩
            rw [← hco]
            have hcog : IsGas co := by have := HCG.out xo; rw [← hco] at this; unfold IsGas maxB; omega
            have HCOE := Lib.hid hco
            clear kg3 kb3 hb3 B3 B2 hco
            go_wp2_with fail
            refine (plus_any co hd _ hcog HG0.out).mono ?_
            rintro e w4 ⟨rfl, rfl⟩
            obtain ⟨nv, hnv⟩ : ∃ nv, nv = gadd co hd := ⟨_, rfl⟩
            rw [← hnv]
            have HNV := Lib.hid hnv
            clear hnv hcog
            have u1 := HKB3.out.cell i
            have u2 := HKB3.out.frozen i
            rw [best_at0 HBL.out] at u1
            go_wp2_with fail
            go_roundw
            case rel =>
              refine ⟨i, nv :: bs, by omega, by go_num, ?_, ?_, HKG3.out.far (p := ⟨w1.heap.size, i, none⟩) (by show g ≠ w1.heap.size; omega) _, HB3.out.setCell (p := ⟨w1.heap.size, i, none⟩) (by show w.heap.size ≤ w1.heap.size; omega) _, by simp [World.setCell]; omega⟩
              · show bestM cards (ins.drop i) = _
                rw [HDR.out, bestM, HBM.out]
                rw [show targetI ⟨xa, xo, xA, xB, xC⟩ = some tg from HTI.out]
                simp only
                rw [H3.out]
                simp only
                rw [(show ownI ⟨xa, xo, xA, xB, xC⟩ bs = hd by unfold ownI; rw [if_neg (by rw [HST.out]; decide), HHD.out]), ← HBKE.out, show max hd hd = hd by omega, HNV.out, HCOE.out]
              · have := HKB3.out.set_ i (.int .i64 nv)
                rw [best_set HBL.out] at this
                exact this
            case measure => (simp [intOf]; try omega)
          · go_wp2_with fail
            refine (HCO.out xo _).mono ?_
            rintro e w3 ⟨rfl, hb3⟩
            have hz3 := hb3.size
            have B3 := B2.trans (hb3.mono (by omega))
            have kb3 := HBK.out.below B3 (by omega)
            have kg3 := HGK.out.below B3 hgl
            have HB3 := Lib.hid (HBE.out.trans (B3.mono (by omega)))
            have HKB3 := Lib.hid kb3
            have HKG3 := Lib.hid kg3
            obtain ⟨co, hco⟩ : ∃ co, co = costI ⟨xa, xo, xA, xB, xC⟩ cards := ⟨_, rfl⟩
            rw [← hco]
            have hcog : IsGas co := by have := HCG.out xo; rw [← hco] at this; unfold IsGas maxB; omega
            have HCOE := Lib.hid hco
            clear kg3 kb3 hb3 B3 B2 hco
            go_wp2_with fail
            refine (plus_any co hd _ hcog HG0.out).mono ?_
            rintro e w4 ⟨rfl, rfl⟩
            obtain ⟨nv, hnv⟩ : ∃ nv, nv = gadd co hd := ⟨_, rfl⟩
            rw [← hnv]
            have HNV := Lib.hid hnv
            clear hnv hcog
            have u1 := HKB3.out.cell i
            have u2 := HKB3.out.frozen i
            rw [best_at0 HBL.out] at u1
            go_wp2_with fail
            go_roundw
            case rel =>
              refine ⟨i, nv :: bs, by omega, by go_num, ?_, ?_, HKG3.out.far (p := ⟨w1.heap.size, i, none⟩) (by show g ≠ w1.heap.size; omega) _, HB3.out.setCell (p := ⟨w1.heap.size, i, none⟩) (by show w.heap.size ≤ w1.heap.size; omega) _, by simp [World.setCell]; omega⟩
              · show bestM cards (ins.drop i) = _
                rw [HDR.out, bestM, HBM.out]
                rw [show targetI ⟨xa, xo, xA, xB, xC⟩ = some tg from HTI.out]
                simp only
                rw [H3.out]
                simp only
                rw [(show ownI ⟨xa, xo, xA, xB, xC⟩ bs = hd by unfold ownI; rw [if_neg (by rw [HST.out]; decide), HHD.out]), ← HBKE.out, show max hd bk = hd by omega, HNV.out, HCOE.out]
              · have := HKB3.out.set_ i (.int .i64 nv)
                rw [best_set HBL.out] at this
                exact this
            case measure => (simp [intOf]; try omega)
end Go.Proofs.Ytggibiodeecljaa
namespace Go.Proofs.Ytggibiodeecljaa
open Go.RowKit
set_option linter.unusedVariables false

theorem one_gas : IsGas 1 := by unfold IsGas maxB; omega
theorem zero_gasv (w : World) : (zeroValue 86).run Try.prog w = .ok (.int .i64 0) w := by kernel_rfl
theorem costs_fields (n c : Int) : costsF fieldsM n c = costR 0 n c := by
  have hall : ∀ m : Nat, m < 13 → (fieldsM[m]?).map (·.many) = some (decide (m = 10)) := by decide
  have hl : fieldsM.length = 13 := by decide
  have hR : costR 0 n c = if n = 10 then 1 + c else 1 := by
    unfold costR
    by_cases h : n = 10
    · rw [if_pos h, if_pos (by simp [h])]
    · rw [if_neg h, if_neg (by simp [h])]
  rw [hR]
  unfold costsF signOf
  by_cases hn : n < 0
  · rw [if_pos hn, if_neg (by omega)]
  · obtain ⟨m, rfl⟩ := Int.eq_ofNat_of_zero_le (show 0 ≤ n by omega)
    rw [if_neg hn, Int.toNat_natCast]
    by_cases hm : m < 13
    · have h := hall m hm
      rw [Option.map_eq_some_iff] at h
      obtain ⟨s, hs, h⟩ := h
      rw [hs]
      simp only
      unfold signGas
      rw [h]
      by_cases he : m = 10
      · rw [if_pos (by simpa using he), if_pos (by omega)]
      · rw [if_neg (by simpa using he), if_neg (by omega)]
    · rw [List.getElem?_eq_none (by rw [hl]; omega)]
      simp only
      rw [if_neg (by omega)]
theorem costs_funcs (n c : Int) : costsF funcsM n c = costR 1 n c := by
  have hall : ∀ m : Nat, m < 9 → (funcsM[m]?).map (·.many) = some (decide (m = 4)) := by decide
  have hl : funcsM.length = 9 := by decide
  have hR : costR 1 n c = if n = 4 then 1 + c else 1 := by
    unfold costR
    by_cases h : n = 4
    · rw [if_pos h, if_pos (by simp [h])]
    · rw [if_neg h, if_neg (by simp [h])]
  rw [hR]
  unfold costsF signOf
  by_cases hn : n < 0
  · rw [if_pos hn, if_neg (by omega)]
  · obtain ⟨m, rfl⟩ := Int.eq_ofNat_of_zero_le (show 0 ≤ n by omega)
    rw [if_neg hn, Int.toNat_natCast]
    by_cases hm : m < 9
    · have h := hall m hm
      rw [Option.map_eq_some_iff] at h
      obtain ⟨s, hs, h⟩ := h
      rw [hs]
      simp only
      unfold signGas
      rw [h]
      by_cases he : m = 4
      · rw [if_pos (by simpa using he), if_pos (by omega)]
      · rw [if_neg (by simpa using he), if_neg (by omega)]
    · rw [List.getElem?_eq_none (by rw [hl]; omega)]
      simp only
      rw [if_neg (by omega)]
theorem costs_effects (n c : Int) : costsF effectsM n c = costR 2 n c := by
  have hall : ∀ m : Nat, m < 9 → (effectsM[m]?).map (·.many) = some (decide (m = 8)) := by decide
  have hl : effectsM.length = 9 := by decide
  have hR : costR 2 n c = if n = 8 then 1 + c else 1 := by
    unfold costR
    by_cases h : n = 8
    · rw [if_pos h, if_pos (by simp [h])]
    · rw [if_neg h, if_neg (by simp [h])]
  rw [hR]
  unfold costsF signOf
  by_cases hn : n < 0
  · rw [if_pos hn, if_neg (by omega)]
  · obtain ⟨m, rfl⟩ := Int.eq_ofNat_of_zero_le (show 0 ≤ n by omega)
    rw [if_neg hn, Int.toNat_natCast]
    by_cases hm : m < 9
    · have h := hall m hm
      rw [Option.map_eq_some_iff] at h
      obtain ⟨s, hs, h⟩ := h
      rw [hs]
      simp only
      unfold signGas
      rw [h]
      by_cases he : m = 8
      · rw [if_pos (by simpa using he), if_pos (by omega)]
      · rw [if_neg (by simpa using he), if_neg (by omega)]
    · rw [List.getElem?_eq_none (by rw [hl]; omega)]
      simp only
      rw [if_neg (by omega)]
set_option maxRecDepth 100000 in
/-- costs, of any number. -/
theorem costs_all (B b : Nat) (l : List Sign) (len cap : Nat) (n : Int) (c : Int) (w : World) (hll : l.length = len) (hlen : len ≤ 1000) (h : SignsAt w B b l) (h0 : 1 ≤ c) (h1 : c ≤ 256) :
    Calls Try.prog 57 #[.slice (some ⟨b, 0, none⟩) len cap, .int .i64 n, .int .i64 c] w fun e w' => e = .returned (.int .i64 (costsF l n c)) ∧ w = w' := by
  cases hs : signOf l n with
  | some s => exact costs_any B b l len cap n c s w hll hlen h hs h0 h1
  | none =>
    have hc : costsF l n c = 1 := by unfold costsF; rw [hs]
    rw [hc]
    unfold signOf at hs
    by_cases hneg : n < 0
    · clear hs h hc
      go_enter Try.func57, Try.ntmps57
      go_wp2_with fail
      go_ret
      exact ⟨rfl, rfl⟩
    · rw [if_neg hneg, List.getElem?_eq_none_iff, hll] at hs
      have hge : (len : Int) ≤ n := by omega
      have d1 : decide (n < 0) = false := decide_eq_false hneg
      clear hs h hc
      go_enter Try.func57, Try.ntmps57
      go_wp2_with fail
      go_ret
      exact ⟨rfl, rfl⟩

set_option maxRecDepth 100000 in
set_option maxHeartbeats 40000000 in
theorem code_any (A : Option Addr) (l : List Int) (cap : Nat) (cards : Int) (w : World) (hl : l.length ≤ 500000) (hcap : l.length ≤ cap) (hb : BytesAt w A l) :
    Calls Try.prog 25 #[.slice A l.length cap, .int .i64 cards] w fun e w' => e = .returned (.tuple #[.int .i64 (codeM l cards).1, .bool (codeM l cards).2]) ∧ Below w.heap.size w w' := by
  have hA := all_any A l cap w (by omega) hcap hb
  have hri := allM_rises l l.length 0 [] List.Pairwise.nil (fun y hy => by simp at hy)
  have hle := allM_len l l.length 0 []
  obtain ⟨R, hR⟩ : ∃ R, R = codeM l cards := ⟨_, rfl⟩
  rw [← hR]
  unfold codeM at hR
  obtain ⟨ins, er, pl, hall⟩ : ∃ ins er pl, allM l l.length 0 [] = (ins, er, pl) := ⟨_, _, _, rfl⟩
  rw [hall] at hA hri hle hR
  simp only at hA hri hle hR
  obtain ⟨n, hn⟩ : ∃ n, ins.length = n := ⟨_, rfl⟩
  rw [hn] at hA hle
  simp only [List.length_nil, Nat.zero_add] at hle
  have hn1 : n ≤ 1000000 := by omega
  have HA := Lib.hid hA
  have HN := Lib.hid hn
  have HRI := Lib.hid hri
  clear hA hn hri hall hb
  by_cases herr : ¬ er = 0
  · rw [if_pos (.inl herr)] at hR
    have s1 : (er == 0) = false := beq_false_of herr
    have s0 : (er != 0) = true := by simp [bne, s1]
    have HR := Lib.hid hR
    clear hR
    go_enter Try.func25, Try.ntmps25
    go_wp2_with fail
    refine HA.out.mono ?_
    rintro e w1 ⟨v, rfl, hown, hbel⟩
    have HB := Lib.hid hbel
    clear hown hbel
    go_wp2_with fail
    go_ret2
    exact ⟨by rw [HR.out]; rfl, HB.out⟩
  have herr : er = 0 := by omega
  subst herr
  by_cases hc0 : cards < 1
  · rw [if_pos (.inr (.inl hc0))] at hR
    have s1 : decide (cards < 1) = true := decide_eq_true hc0
    have HR := Lib.hid hR
    clear hR
    go_enter Try.func25, Try.ntmps25
    go_wp2_with fail
    refine HA.out.mono ?_
    rintro e w1 ⟨v, rfl, hown, hbel⟩
    have HB := Lib.hid hbel
    clear hown hbel
    go_wp2_with fail
    go_ret2
    exact ⟨by rw [HR.out]; rfl, HB.out⟩
  by_cases hc1 : 256 < cards
  · rw [if_pos (.inr (.inr hc1))] at hR
    have s1 : decide (cards < 1) = false := decide_eq_false hc0
    have s2 : decide (256 < cards) = true := decide_eq_true hc1
    have HR := Lib.hid hR
    clear hR
    go_enter Try.func25, Try.ntmps25
    go_wp2_with fail
    refine HA.out.mono ?_
    rintro e w1 ⟨v, rfl, hown, hbel⟩
    have HB := Lib.hid hbel
    clear hown hbel
    go_wp2_with fail
    go_ret2
    exact ⟨by rw [HR.out]; rfl, HB.out⟩
  rw [if_neg (by omega)] at hR
  have s1 : decide (cards < 1) = false := decide_eq_false hc0
  have s2 : decide (256 < cards) = false := decide_eq_false hc1
  have HR := Lib.hid hR
  clear hR
  have hc0 : 1 ≤ cards := by omega
  have hc1 : cards ≤ 256 := by omega
  have hbf := fun k bs (h : bestM cards (ins.drop k) = some bs) => bestM_facts (c := cards) (by omega) (by omega) (ins.drop k) bs h
  have HBF0 := Lib.hid hbf
  have hmm := @run_makeMap Try.prog
  clear hbf
  by_cases hz : n = 0
  · subst hz
    have hins : ins = [] := List.length_eq_zero_iff.1 HN.out
    subst hins
    go_enter Try.func25, Try.ntmps25
    go_wp2_with fail
    refine HA.out.mono ?_
    rintro e w1 ⟨v, rfl, hown, hbel⟩
    obtain ⟨A1, c1, rfl⟩ := own_form hown
    have HB := Lib.hid (hbel.alloc hbel.size (.map #[] 0))
    clear hown hbel
    go_wp2_with fail
    go_loopw [10, 11, 12, 13, 14, 15, 16, 17, 18, 50, 57, 64, 69] (fun av iv _ _ _ _ _ _ _ _ _ _ _ wr => av = .int .i64 0 ∧ iv = .int .i64 (-1) ∧ wr = w1.alloc (.map #[] 0)) (fun _ _ _ _ _ _ _ _ _ _ _ _ _ _ => 0)
    case atStart => exact ⟨rfl, by first | rfl | simp, rfl⟩
    case round =>
      obtain ⟨rfl, rfl, rfl⟩ := hrel
      go_wp2_with fail
      go_ret2
      exact ⟨by rw [HR.out]; rfl, HB.out⟩
  have hpos : 0 < n := by omega
  go_enter Try.func25, Try.ntmps25
  go_wp2_with fail
  refine HA.out.mono ?_
  rintro e w1 ⟨v, rfl, hown, hbel⟩
  obtain ⟨g, cp, cs, rfl, hbg, hblk, hcs⟩ := ins_row hown HN.out hpos
  have hglt := hblk.lt
  have hz0 := hbel.size
  have HM0 := Lib.hid (MK.made keyI w1)
  have HKG := Lib.hid (hblk.alloc (.map #[] 0))
  have HB0 := Lib.hid (hbel.alloc hbel.size (.map #[] 0))
  have HCS := Lib.hid hcs
  clear hown hbel hblk hcs
  go_wp2_with fail
  go_loopw [10, 11, 12, 13, 14, 15, 16, 17, 18, 50, 57, 64, 69] (fun av iv _ _ _ _ _ _ _ _ _ _ _ wr => ∃ (k : Nat) (bs : List Int) (f : Int → Option Value), k ≤ n ∧ iv = .int .i64 ((k : Int) - 1) ∧ av = .int .i64 (bs.headD 0) ∧ Hid (bestM cards (ins.drop k) = some bs) ∧ Hid (∀ y, f y = (placeM (ins.drop k) y).map fun j => .int .i64 (bs.getD j 0)) ∧ MK keyI wr w1.heap.size f ∧ Blk wr g 101 cs ∧ Below w.heap.size w wr ∧ w1.heap.size + 1 ≤ wr.heap.size)
    (fun _ iv _ _ _ _ _ _ _ _ _ _ _ _ => (intOf iv + 1).toNat)
  case atStart => exact ⟨n, [], _, by omega, by first | rfl | (congr 1; omega), rfl, by rw [List.drop_of_length_le (by rw [HN.out]; omega)]; rfl, by rw [List.drop_of_length_le (by rw [HN.out]; omega)]; exact fun y => rfl, HM0.out, HKG.out, HB0.out, by simp⟩
  case round =>
    obtain ⟨k, bs, f, hk, rfl, rfl, HBM, HF, hm, hkg, hbel, hsz⟩ := hrel
    obtain ⟨hd, hhd⟩ : ∃ hd, hd = bs.headD 0 := ⟨_, rfl⟩
    rw [← hhd]
    by_cases hk0 : k = 0
    · subst hk0
      have hfin : R = (hd, true) := by
        have := HBM.out
        rw [List.drop_zero] at this
        rw [HR.out, this, hhd]
      have HFIN := Lib.hid hfin
      have HBE := Lib.hid hbel
      have hneg : (((0 : Nat) : Int) - 1) = -1 := by omega
      rw [hneg]
      clear hfin hm hkg hbel hhd
      go_wp2_with fail
      go_ret2
      exact ⟨by rw [HFIN.out]; rfl, HBE.out⟩
    · obtain ⟨i, rfl⟩ : ∃ i, k = i + 1 := ⟨k - 1, by omega⟩
      have hi1 : ((i + 1 : Nat) : Int) - 1 = (i : Int) := by omega
      rw [hi1]
      have hiI : (i : Int) < n := by omega
      obtain ⟨x, hx⟩ : ∃ x, ins[i]? = some x := ⟨_, List.getElem?_eq_getElem (by rw [HN.out]; omega)⟩
      have hdrop : ins.drop i = x :: ins.drop (i + 1) := by
        obtain ⟨h2, h3⟩ := List.getElem?_eq_some_iff.1 hx
        rw [List.drop_eq_getElem_cons h2, h3]
      obtain ⟨hbl, hbg2⟩ := HBF0.out (i + 1) bs HBM.out
      have hg0 : IsGas hd := by
        have := getD_gas hbg2 0
        rw [hhd]
        cases bs <;> simpa using this
      have HHD := Lib.hid hhd
      have HG0 := Lib.hid hg0
      have HBG := Lib.hid hbg2
      obtain ⟨xa, xo, xA, xB, xC⟩ := x
      have r0 : wr.cell? ⟨g, i * 5, none⟩ = some (.int .i64 xa) := (hkg.cell (i * 5 + 0)).trans (HCS.out i _ hx 0 _ rfl)
      have r1 : wr.cell? ⟨g, i * 5 + 1, none⟩ = some (.int .u8 xo) := (hkg.cell (i * 5 + 1)).trans (HCS.out i _ hx 1 _ rfl)
      have r2 : wr.cell? ⟨g, i * 5 + 2, none⟩ = some (.int .i64 xA) := (hkg.cell (i * 5 + 2)).trans (HCS.out i _ hx 2 _ rfl)
      have r3 : wr.cell? ⟨g, i * 5 + 3, none⟩ = some (.int .i64 xB) := (hkg.cell (i * 5 + 3)).trans (HCS.out i _ hx 3 _ rfl)
      have r4 : wr.cell? ⟨g, i * 5 + 4, none⟩ = some (.int .i64 xC) := (hkg.cell (i * 5 + 4)).trans (HCS.out i _ hx 4 _ rfl)
      have hgl := hkg.lt
      have HMP := Lib.hid hm
      have HBK := Lib.hid hkg
      have HBE := Lib.hid hbel
      have hTG := fun op wx => target_any ⟨xa, op, xA, xB, xC⟩ wx
      simp only [Ins.cells] at hTG
      have HTG := Lib.hid hTG
      have hB0 := HBE.out.size
      have HDR := Lib.hid hdrop
      clear hx hdrop hhd hbl hbg2 hg0 hm hkg hbel hTG
      by_cases q46 : xo = 46
      · subst q46
        have hst : stopI ⟨xa, 46, xA, xB, xC⟩ = false := rfl
        have HST := Lib.hid hst
        clear hst
        have HTI : Hid (targetI ⟨xa, 46, xA, xB, xC⟩ = none) := rfl
        obtain ⟨co, hco⟩ : ∃ co, co = costsF fieldsM (xA) cards := ⟨_, rfl⟩
        have hcog : IsGas co := by have h1 := costsF_pos fieldsM (xA) (c := cards) (by omega); have h2 := costsF_le fieldsM (xA) (c := cards) (by omega); rw [← hco] at h1 h2; unfold IsGas maxB; omega
        have hce : co = costI ⟨xa, 46, xA, xB, xC⟩ cards := by rw [hco, costs_fields]; rfl
        have HCOE := Lib.hid hco
        have HCO := Lib.hid hcog
        have HCE := Lib.hid hce
        clear hco hcog hce
        obtain ⟨WX, hWX⟩ : ∃ W, W = (wr.alloc (.cells #[.int .i64 xa, .int .u8 46, .int .i64 xA, .int .i64 xB, .int .i64 xC] 101)).alloc (.cells #[.int .i64 1] 86) := ⟨_, rfl⟩
        have zX : WX.heap.size = wr.heap.size + 1 + 1 := by rw [hWX]; simp
        have BX : Below wr.heap.size wr WX := by rw [hWX]; exact ((Below.refl _ _).alloc (Nat.le_refl _) _).alloc (by simp) _
        have GKX : Blk WX (wr.heap.size + 1) 86 #[.int .i64 1] := by rw [hWX]; have := Blk.new (wr.alloc (.cells #[.int .i64 xa, .int .u8 46, .int .i64 xA, .int .i64 xB, .int .i64 xC] 101)) 86 #[.int .i64 1]; simpa using this
        have XKX : Blk WX wr.heap.size 101 #[.int .i64 xa, .int .u8 46, .int .i64 xA, .int .i64 xB, .int .i64 xC] := by rw [hWX]; exact (Blk.new _ _ _).alloc _
        have CX := XKX.cell 2
        have HGX := Lib.hid GKX
        have HXX := Lib.hid XKX
        have HBX := Lib.hid BX
        have HWX := Lib.hid hWX
        clear GKX XKX BX hWX
        go_wp2_with fail
        rw [← HWX.out]
        go_region_held3 (fun w' => w'.cell? ⟨wr.heap.size, 2, none⟩ = some (.int .i64 xA)) (first | exact CX | exact C55 | go_keep) ((first | (go_at_call 58; go_loud (refine (fields_st _).mono ?_; rintro e w5 ⟨rfl, hsg, hbl⟩; have hz5 := hbl.size; have hx5 := HXX.out.drew.below hbl (by show wr.heap.size < WX.heap.size; omega); have hg5 := HGX.out.drew.below hbl (by show wr.heap.size + 1 < WX.heap.size; omega); have C55 := hx5.cell 2; have g50 := hg5.cell 0; have g5f := hg5.frozen 0; have HX5 := Lib.hid hx5; have HG5 := Lib.hid hg5; have HB5 := Lib.hid (HBX.out.drew.trans (hbl.mono (by show wr.heap.size ≤ WX.heap.size; omega))); rw [drew_size, zX] at hsg; have HSGN := Lib.hid hsg; rw [drew_size] at hz5; clear hsg hbl hx5 hg5)) | (go_at_call 57; refine (costs_all _ _ fieldsM 13 13 (xA) cards _ rfl (by omega) HSGN.out hc0 hc1).mono ?_; rintro e w6 ⟨rfl, rfl⟩; rw [← HCOE.out])))
        all_goals (
          have y0 := HX5.out.cell 0
          have y1 := HX5.out.cell 1
          have y2 := HX5.out.cell 2
          have y3 := HX5.out.cell 3
          have y4 := HX5.out.cell 4
          obtain ⟨WC, hWC⟩ : ∃ W, W = w5.setCell ⟨wr.heap.size + 1, 0, none⟩ (.int .i64 co) := ⟨_, rfl⟩
          have zC : WC.heap.size = w5.heap.size := by rw [hWC]; simp [World.setCell]
          have BC := Lib.hid (show Below wr.heap.size wr WC by rw [hWC]; exact HB5.out.setCell (p := ⟨wr.heap.size + 1, 0, none⟩) (by show wr.heap.size ≤ wr.heap.size + 1; omega) _)
          have GKC := Lib.hid (show Blk WC (wr.heap.size + 1) 86 #[.int .i64 co] by rw [hWC]; exact HG5.out.set_ 0 (.int .i64 co))
          have XKC := Lib.hid (show Blk WC wr.heap.size 101 #[.int .i64 xa, .int .u8 46, .int .i64 xA, .int .i64 xB, .int .i64 xC] by rw [hWC]; exact HX5.out.far (p := ⟨wr.heap.size + 1, 0, none⟩) (by show wr.heap.size ≠ wr.heap.size + 1; omega) _)
          have hz5' : wr.heap.size + 1 + 1 ≤ WC.heap.size := by omega
          have HWC := Lib.hid hWC
          clear hWC
          go_wp2_with fail
          rw [← HWC.out]
          refine (HTG.out 46 _).mono ?_
          rintro e w2 ⟨rfl, hb2⟩
          have hz2 := hb2.size
          have GK2 := Lib.hid (GKC.out.below hb2 (by omega))
          have XK2 := Lib.hid (XKC.out.below hb2 (by omega))
          have B2 := Lib.hid (BC.out.trans (hb2.mono (by omega)))
          clear hb2
          rw [show tgtV ⟨xa, 46, xA, xB, xC⟩ = .tuple #[.int .i64 0, .bool false] by unfold tgtV; rw [HTI.out]]
          go_wp2_with fail
          refine (add_any (wr.heap.size + 1) w2.heap.size 0 1 1 co [hd] (w2.alloc (.cells #[.int .i64 (hd)] 86)) rfl (by omega) (GK2.out.alloc _) (gvals_blk (l := [hd]) (Blk.new w2 86 #[.int .i64 (hd)])) (by omega) (by simp) HCO.out (by intro y hy; simp at hy; subst hy; exact HG0.out)).mono ?_
          rintro e w3 ⟨rfl, hb3, hg3⟩
          have B3 := (B2.out.alloc (by omega) (.cells #[.int .i64 (hd)] 86)).grown hg3 (by simp; omega) (fun k e => by injection e with e; omega)
          have x3 := (XK2.out.alloc (.cells #[.int .i64 (hd)] 86)).grown hg3 (by intro e; injection e with e; omega)
          have xc0 := x3.cell 0
          have hfo : ([hd] : List Int).foldl gadd co = gadd co (hd) := rfl
          rw [hfo] at hb3
          obtain ⟨cv, hcv⟩ : ∃ cv, cv = gadd co (hd) := ⟨_, rfl⟩
          rw [← hcv] at hb3
          have hcc := hb3.cell 0
          have m3 := HMP.out.of_block keyI (B3.block w1.heap.size (by omega))
          have k3 := HBK.out.below B3 hgl
          have e3 := HBE.out.trans (B3.mono HBE.out.size)
          obtain ⟨w4, hrun, m4, g4⟩ := m3.update keyI Try.underlying99 xa (.int .i64 cv)
          have hrun2 : (Instr.mapUpdate 99 (.map (some w1.heap.size)) (.int .i64 xa) (.int .i64 cv)).run Try.prog w3 = .ok () w4 := hrun
          have K4 := Lib.hid (k3.grown g4 (by intro e; injection e with e; omega))
          have E4 := Lib.hid (e3.grown g4 (by have := B3.size; omega) (fun k e => by injection e with e; omega))
          have M4 := Lib.hid m4
          have Z4 := g4.size
          have Z3 := B3.size
          have HCV := Lib.hid hcv
          clear hrun m3 k3 e3 m4 g4 B3 x3 hfo hb3 hg3 hcv
          go_wp2_with fail
          go_roundw
          case rel =>
            refine ⟨i, cv :: bs, _, by omega, by go_num, rfl, ?_, ?_, M4.out, K4.out, E4.out, by omega⟩
            · show bestM cards (ins.drop i) = _
              rw [HDR.out, bestM, HBM.out]
              simp only
              rw [show targetI ⟨xa, 46, xA, xB, xC⟩ = none from HTI.out]
              simp only
              rw [(show ownI ⟨xa, 46, xA, xB, xC⟩ bs = hd by unfold ownI; rw [if_neg (by rw [HST.out]; decide), HHD.out]), HCV.out, HCE.out]
            · show ∀ y, upd keyI f xa (some (.int .i64 cv)) y = (placeM (ins.drop i) y).map fun j => .int .i64 ((cv :: bs).getD j 0)
              intro y
              rw [upd_int, HDR.out, placeM]
              by_cases hy : xa = y
              · rw [if_pos hy.symm, if_pos hy]
                rfl
              · rw [if_neg (fun e => hy e.symm), if_neg hy, HF.out y, Option.map_map]
                rfl
          case measure => (simp [intOf]; try omega))
      by_cases q60 : xo = 60
      · subst q60
        have hst : stopI ⟨xa, 60, xA, xB, xC⟩ = false := rfl
        have HST := Lib.hid hst
        clear hst
        have HTI : Hid (targetI ⟨xa, 60, xA, xB, xC⟩ = none) := rfl
        obtain ⟨co, hco⟩ : ∃ co, co = costsF effectsM (xA) cards := ⟨_, rfl⟩
        have hcog : IsGas co := by have h1 := costsF_pos effectsM (xA) (c := cards) (by omega); have h2 := costsF_le effectsM (xA) (c := cards) (by omega); rw [← hco] at h1 h2; unfold IsGas maxB; omega
        have hce : co = costI ⟨xa, 60, xA, xB, xC⟩ cards := by rw [hco, costs_effects]; rfl
        have HCOE := Lib.hid hco
        have HCO := Lib.hid hcog
        have HCE := Lib.hid hce
        clear hco hcog hce
        obtain ⟨WX, hWX⟩ : ∃ W, W = (wr.alloc (.cells #[.int .i64 xa, .int .u8 60, .int .i64 xA, .int .i64 xB, .int .i64 xC] 101)).alloc (.cells #[.int .i64 1] 86) := ⟨_, rfl⟩
        have zX : WX.heap.size = wr.heap.size + 1 + 1 := by rw [hWX]; simp
        have BX : Below wr.heap.size wr WX := by rw [hWX]; exact ((Below.refl _ _).alloc (Nat.le_refl _) _).alloc (by simp) _
        have GKX : Blk WX (wr.heap.size + 1) 86 #[.int .i64 1] := by rw [hWX]; have := Blk.new (wr.alloc (.cells #[.int .i64 xa, .int .u8 60, .int .i64 xA, .int .i64 xB, .int .i64 xC] 101)) 86 #[.int .i64 1]; simpa using this
        have XKX : Blk WX wr.heap.size 101 #[.int .i64 xa, .int .u8 60, .int .i64 xA, .int .i64 xB, .int .i64 xC] := by rw [hWX]; exact (Blk.new _ _ _).alloc _
        have CX := XKX.cell 2
        have HGX := Lib.hid GKX
        have HXX := Lib.hid XKX
        have HBX := Lib.hid BX
        have HWX := Lib.hid hWX
        clear GKX XKX BX hWX
        go_wp2_with fail
        rw [← HWX.out]
        go_region_held3 (fun w' => w'.cell? ⟨wr.heap.size, 2, none⟩ = some (.int .i64 xA)) (first | exact CX | exact C55 | go_keep) ((first | (go_at_call 59; go_loud (refine (effects_st _).mono ?_; rintro e w5 ⟨rfl, hsg, hbl⟩; have hz5 := hbl.size; have hx5 := HXX.out.drew.below hbl (by show wr.heap.size < WX.heap.size; omega); have hg5 := HGX.out.drew.below hbl (by show wr.heap.size + 1 < WX.heap.size; omega); have C55 := hx5.cell 2; have g50 := hg5.cell 0; have g5f := hg5.frozen 0; have HX5 := Lib.hid hx5; have HG5 := Lib.hid hg5; have HB5 := Lib.hid (HBX.out.drew.trans (hbl.mono (by show wr.heap.size ≤ WX.heap.size; omega))); rw [drew_size, zX] at hsg; have HSGN := Lib.hid hsg; rw [drew_size] at hz5; clear hsg hbl hx5 hg5)) | (go_at_call 57; refine (costs_all _ _ effectsM 9 9 (xA) cards _ rfl (by omega) HSGN.out hc0 hc1).mono ?_; rintro e w6 ⟨rfl, rfl⟩; rw [← HCOE.out])))
        all_goals (
          have y0 := HX5.out.cell 0
          have y1 := HX5.out.cell 1
          have y2 := HX5.out.cell 2
          have y3 := HX5.out.cell 3
          have y4 := HX5.out.cell 4
          obtain ⟨WC, hWC⟩ : ∃ W, W = w5.setCell ⟨wr.heap.size + 1, 0, none⟩ (.int .i64 co) := ⟨_, rfl⟩
          have zC : WC.heap.size = w5.heap.size := by rw [hWC]; simp [World.setCell]
          have BC := Lib.hid (show Below wr.heap.size wr WC by rw [hWC]; exact HB5.out.setCell (p := ⟨wr.heap.size + 1, 0, none⟩) (by show wr.heap.size ≤ wr.heap.size + 1; omega) _)
          have GKC := Lib.hid (show Blk WC (wr.heap.size + 1) 86 #[.int .i64 co] by rw [hWC]; exact HG5.out.set_ 0 (.int .i64 co))
          have XKC := Lib.hid (show Blk WC wr.heap.size 101 #[.int .i64 xa, .int .u8 60, .int .i64 xA, .int .i64 xB, .int .i64 xC] by rw [hWC]; exact HX5.out.far (p := ⟨wr.heap.size + 1, 0, none⟩) (by show wr.heap.size ≠ wr.heap.size + 1; omega) _)
          have hz5' : wr.heap.size + 1 + 1 ≤ WC.heap.size := by omega
          have HWC := Lib.hid hWC
          clear hWC
          go_wp2_with fail
          rw [← HWC.out]
          refine (HTG.out 60 _).mono ?_
          rintro e w2 ⟨rfl, hb2⟩
          have hz2 := hb2.size
          have GK2 := Lib.hid (GKC.out.below hb2 (by omega))
          have XK2 := Lib.hid (XKC.out.below hb2 (by omega))
          have B2 := Lib.hid (BC.out.trans (hb2.mono (by omega)))
          clear hb2
          rw [show tgtV ⟨xa, 60, xA, xB, xC⟩ = .tuple #[.int .i64 0, .bool false] by unfold tgtV; rw [HTI.out]]
          go_wp2_with fail
          refine (add_any (wr.heap.size + 1) w2.heap.size 0 1 1 co [hd] (w2.alloc (.cells #[.int .i64 (hd)] 86)) rfl (by omega) (GK2.out.alloc _) (gvals_blk (l := [hd]) (Blk.new w2 86 #[.int .i64 (hd)])) (by omega) (by simp) HCO.out (by intro y hy; simp at hy; subst hy; exact HG0.out)).mono ?_
          rintro e w3 ⟨rfl, hb3, hg3⟩
          have B3 := (B2.out.alloc (by omega) (.cells #[.int .i64 (hd)] 86)).grown hg3 (by simp; omega) (fun k e => by injection e with e; omega)
          have x3 := (XK2.out.alloc (.cells #[.int .i64 (hd)] 86)).grown hg3 (by intro e; injection e with e; omega)
          have xc0 := x3.cell 0
          have hfo : ([hd] : List Int).foldl gadd co = gadd co (hd) := rfl
          rw [hfo] at hb3
          obtain ⟨cv, hcv⟩ : ∃ cv, cv = gadd co (hd) := ⟨_, rfl⟩
          rw [← hcv] at hb3
          have hcc := hb3.cell 0
          have m3 := HMP.out.of_block keyI (B3.block w1.heap.size (by omega))
          have k3 := HBK.out.below B3 hgl
          have e3 := HBE.out.trans (B3.mono HBE.out.size)
          obtain ⟨w4, hrun, m4, g4⟩ := m3.update keyI Try.underlying99 xa (.int .i64 cv)
          have hrun2 : (Instr.mapUpdate 99 (.map (some w1.heap.size)) (.int .i64 xa) (.int .i64 cv)).run Try.prog w3 = .ok () w4 := hrun
          have K4 := Lib.hid (k3.grown g4 (by intro e; injection e with e; omega))
          have E4 := Lib.hid (e3.grown g4 (by have := B3.size; omega) (fun k e => by injection e with e; omega))
          have M4 := Lib.hid m4
          have Z4 := g4.size
          have Z3 := B3.size
          have HCV := Lib.hid hcv
          clear hrun m3 k3 e3 m4 g4 B3 x3 hfo hb3 hg3 hcv
          go_wp2_with fail
          go_roundw
          case rel =>
            refine ⟨i, cv :: bs, _, by omega, by go_num, rfl, ?_, ?_, M4.out, K4.out, E4.out, by omega⟩
            · show bestM cards (ins.drop i) = _
              rw [HDR.out, bestM, HBM.out]
              simp only
              rw [show targetI ⟨xa, 60, xA, xB, xC⟩ = none from HTI.out]
              simp only
              rw [(show ownI ⟨xa, 60, xA, xB, xC⟩ bs = hd by unfold ownI; rw [if_neg (by rw [HST.out]; decide), HHD.out]), HCV.out, HCE.out]
            · show ∀ y, upd keyI f xa (some (.int .i64 cv)) y = (placeM (ins.drop i) y).map fun j => .int .i64 ((cv :: bs).getD j 0)
              intro y
              rw [upd_int, HDR.out, placeM]
              by_cases hy : xa = y
              · rw [if_pos hy.symm, if_pos hy]
                rfl
              · rw [if_neg (fun e => hy e.symm), if_neg hy, HF.out y, Option.map_map]
                rfl
          case measure => (simp [intOf]; try omega))
      by_cases q44 : xo = 44
      · subst q44
        have hst : stopI ⟨xa, 44, xA, xB, xC⟩ = false := rfl
        have HST := Lib.hid hst
        clear hst
        have HTI : Hid (targetI ⟨xa, 44, xA, xB, xC⟩ = none) := rfl
        obtain ⟨co, hco⟩ : ∃ co, co = costsF funcsM (4) cards := ⟨_, rfl⟩
        have hcog : IsGas co := by have h1 := costsF_pos funcsM (4) (c := cards) (by omega); have h2 := costsF_le funcsM (4) (c := cards) (by omega); rw [← hco] at h1 h2; unfold IsGas maxB; omega
        have hce : co = costI ⟨xa, 44, xA, xB, xC⟩ cards := by rw [hco, costs_funcs]; rfl
        have HCOE := Lib.hid hco
        have HCO := Lib.hid hcog
        have HCE := Lib.hid hce
        clear hco hcog hce
        obtain ⟨WX, hWX⟩ : ∃ W, W = (wr.alloc (.cells #[.int .i64 xa, .int .u8 44, .int .i64 xA, .int .i64 xB, .int .i64 xC] 101)).alloc (.cells #[.int .i64 1] 86) := ⟨_, rfl⟩
        have zX : WX.heap.size = wr.heap.size + 1 + 1 := by rw [hWX]; simp
        have BX : Below wr.heap.size wr WX := by rw [hWX]; exact ((Below.refl _ _).alloc (Nat.le_refl _) _).alloc (by simp) _
        have GKX : Blk WX (wr.heap.size + 1) 86 #[.int .i64 1] := by rw [hWX]; have := Blk.new (wr.alloc (.cells #[.int .i64 xa, .int .u8 44, .int .i64 xA, .int .i64 xB, .int .i64 xC] 101)) 86 #[.int .i64 1]; simpa using this
        have XKX : Blk WX wr.heap.size 101 #[.int .i64 xa, .int .u8 44, .int .i64 xA, .int .i64 xB, .int .i64 xC] := by rw [hWX]; exact (Blk.new _ _ _).alloc _
        have CX := XKX.cell 2
        have HGX := Lib.hid GKX
        have HXX := Lib.hid XKX
        have HBX := Lib.hid BX
        have HWX := Lib.hid hWX
        clear GKX XKX BX hWX
        go_wp2_with fail
        rw [← HWX.out]
        refine (funcs_st _).mono ?_
        rintro e w5 ⟨rfl, hsg, hbl⟩
        rw [zX] at hsg
        have hz5 := hbl.size
        have hx5 := HXX.out.below hbl (by omega)
        have hg5 := HGX.out.below hbl (by omega)
        have g50 := hg5.cell 0
        have g5f := hg5.frozen 0
        have HX5 := Lib.hid hx5
        have HG5 := Lib.hid hg5
        have HB5 := Lib.hid (HBX.out.trans (hbl.mono (by omega)))
        have HSGN := Lib.hid hsg
        clear hsg hbl hx5 hg5
        go_wp2_with fail
        refine (costs_all _ _ funcsM 9 9 (4) cards _ rfl (by omega) HSGN.out hc0 hc1).mono ?_
        rintro e w6 ⟨rfl, rfl⟩
        rw [← HCOE.out]
        have y0 := HX5.out.cell 0
        have y1 := HX5.out.cell 1
        have y2 := HX5.out.cell 2
        have y3 := HX5.out.cell 3
        have y4 := HX5.out.cell 4
        obtain ⟨WC, hWC⟩ : ∃ W, W = w5.setCell ⟨wr.heap.size + 1, 0, none⟩ (.int .i64 co) := ⟨_, rfl⟩
        have zC : WC.heap.size = w5.heap.size := by rw [hWC]; simp [World.setCell]
        have BC := Lib.hid (show Below wr.heap.size wr WC by rw [hWC]; exact HB5.out.setCell (p := ⟨wr.heap.size + 1, 0, none⟩) (by show wr.heap.size ≤ wr.heap.size + 1; omega) _)
        have GKC := Lib.hid (show Blk WC (wr.heap.size + 1) 86 #[.int .i64 co] by rw [hWC]; exact HG5.out.set_ 0 (.int .i64 co))
        have XKC := Lib.hid (show Blk WC wr.heap.size 101 #[.int .i64 xa, .int .u8 44, .int .i64 xA, .int .i64 xB, .int .i64 xC] by rw [hWC]; exact HX5.out.far (p := ⟨wr.heap.size + 1, 0, none⟩) (by show wr.heap.size ≠ wr.heap.size + 1; omega) _)
        have hz5' : wr.heap.size + 1 + 1 ≤ WC.heap.size := by omega
        have HWC := Lib.hid hWC
        clear hWC
        go_wp2_with fail
        rw [← HWC.out]
        refine (HTG.out 44 _).mono ?_
        rintro e w2 ⟨rfl, hb2⟩
        have hz2 := hb2.size
        have GK2 := Lib.hid (GKC.out.below hb2 (by omega))
        have XK2 := Lib.hid (XKC.out.below hb2 (by omega))
        have B2 := Lib.hid (BC.out.trans (hb2.mono (by omega)))
        clear hb2
        rw [show tgtV ⟨xa, 44, xA, xB, xC⟩ = .tuple #[.int .i64 0, .bool false] by unfold tgtV; rw [HTI.out]]
        go_wp2_with fail
        refine (add_any (wr.heap.size + 1) w2.heap.size 0 1 1 co [hd] (w2.alloc (.cells #[.int .i64 (hd)] 86)) rfl (by omega) (GK2.out.alloc _) (gvals_blk (l := [hd]) (Blk.new w2 86 #[.int .i64 (hd)])) (by omega) (by simp) HCO.out (by intro y hy; simp at hy; subst hy; exact HG0.out)).mono ?_
        rintro e w3 ⟨rfl, hb3, hg3⟩
        have B3 := (B2.out.alloc (by omega) (.cells #[.int .i64 (hd)] 86)).grown hg3 (by simp; omega) (fun k e => by injection e with e; omega)
        have x3 := (XK2.out.alloc (.cells #[.int .i64 (hd)] 86)).grown hg3 (by intro e; injection e with e; omega)
        have xc0 := x3.cell 0
        have hfo : ([hd] : List Int).foldl gadd co = gadd co (hd) := rfl
        rw [hfo] at hb3
        obtain ⟨cv, hcv⟩ : ∃ cv, cv = gadd co (hd) := ⟨_, rfl⟩
        rw [← hcv] at hb3
        have hcc := hb3.cell 0
        have m3 := HMP.out.of_block keyI (B3.block w1.heap.size (by omega))
        have k3 := HBK.out.below B3 hgl
        have e3 := HBE.out.trans (B3.mono HBE.out.size)
        obtain ⟨w4, hrun, m4, g4⟩ := m3.update keyI Try.underlying99 xa (.int .i64 cv)
        have hrun2 : (Instr.mapUpdate 99 (.map (some w1.heap.size)) (.int .i64 xa) (.int .i64 cv)).run Try.prog w3 = .ok () w4 := hrun
        have K4 := Lib.hid (k3.grown g4 (by intro e; injection e with e; omega))
        have E4 := Lib.hid (e3.grown g4 (by have := B3.size; omega) (fun k e => by injection e with e; omega))
        have M4 := Lib.hid m4
        have Z4 := g4.size
        have Z3 := B3.size
        have HCV := Lib.hid hcv
        clear hrun m3 k3 e3 m4 g4 B3 x3 hfo hb3 hg3 hcv
        go_wp2_with fail
        go_roundw
        case rel =>
          refine ⟨i, cv :: bs, _, by omega, by go_num, rfl, ?_, ?_, M4.out, K4.out, E4.out, by omega⟩
          · show bestM cards (ins.drop i) = _
            rw [HDR.out, bestM, HBM.out]
            simp only
            rw [show targetI ⟨xa, 44, xA, xB, xC⟩ = none from HTI.out]
            simp only
            rw [(show ownI ⟨xa, 44, xA, xB, xC⟩ bs = hd by unfold ownI; rw [if_neg (by rw [HST.out]; decide), HHD.out]), HCV.out, HCE.out]
          · show ∀ y, upd keyI f xa (some (.int .i64 cv)) y = (placeM (ins.drop i) y).map fun j => .int .i64 ((cv :: bs).getD j 0)
            intro y
            rw [upd_int, HDR.out, placeM]
            by_cases hy : xa = y
            · rw [if_pos hy.symm, if_pos hy]
              rfl
            · rw [if_neg (fun e => hy e.symm), if_neg hy, HF.out y, Option.map_map]
              rfl
        case measure => (simp [intOf]; try omega)
      by_cases q34 : xo = 34
      · subst q34
        have HTI : Hid (targetI ⟨xa, 34, xA, xB, xC⟩ = none) := rfl
        obtain ⟨WC, hWC⟩ : ∃ W, W = (wr.alloc (.cells #[.int .i64 xa, .int .u8 34, .int .i64 xA, .int .i64 xB, .int .i64 xC] 101)).alloc (.cells #[.int .i64 1] 86) := ⟨_, rfl⟩
        have zC : WC.heap.size = wr.heap.size + 1 + 1 := by rw [hWC]; simp
        have BC := Lib.hid (show Below wr.heap.size wr WC by rw [hWC]; exact ((Below.refl _ _).alloc (Nat.le_refl _) _).alloc (by simp) _)
        have GKC := Lib.hid (show Blk WC (wr.heap.size + 1) 86 #[.int .i64 1] by rw [hWC]; have := Blk.new (wr.alloc (.cells #[.int .i64 xa, .int .u8 34, .int .i64 xA, .int .i64 xB, .int .i64 xC] 101)) 86 #[.int .i64 1]; simpa using this)
        have XKC := Lib.hid (show Blk WC wr.heap.size 101 #[.int .i64 xa, .int .u8 34, .int .i64 xA, .int .i64 xB, .int .i64 xC] by rw [hWC]; exact (Blk.new _ _ _).alloc _)
        have HCO := Lib.hid one_gas
        have hce : (1 : Int) = costI ⟨xa, 34, xA, xB, xC⟩ cards := by rfl
        have HCE := Lib.hid hce
        have HWC := Lib.hid hWC
        clear hce hWC
        go_wp2_with fail
        rw [← HWC.out]
        refine (HTG.out 34 _).mono ?_
        rintro e w2 ⟨rfl, hb2⟩
        have hz2 := hb2.size
        have GK2 := Lib.hid (GKC.out.below hb2 (by omega))
        have XK2 := Lib.hid (XKC.out.below hb2 (by omega))
        have B2 := Lib.hid (BC.out.trans (hb2.mono (by omega)))
        clear hb2
        rw [show tgtV ⟨xa, 34, xA, xB, xC⟩ = .tuple #[.int .i64 0, .bool false] by unfold tgtV; rw [HTI.out]]
        go_wp2_with fail
        refine (add_any (wr.heap.size + 1) w2.heap.size 0 1 1 1 [0] (w2.alloc (.cells #[.int .i64 (0)] 86)) rfl (by omega) (GK2.out.alloc _) (gvals_blk (l := [0]) (Blk.new w2 86 #[.int .i64 (0)])) (by omega) (by simp) HCO.out (by intro y hy; simp at hy; subst hy; exact zero_gas)).mono ?_
        rintro e w3 ⟨rfl, hb3, hg3⟩
        have B3 := (B2.out.alloc (by omega) (.cells #[.int .i64 (0)] 86)).grown hg3 (by simp; omega) (fun k e => by injection e with e; omega)
        have x3 := (XK2.out.alloc (.cells #[.int .i64 (0)] 86)).grown hg3 (by intro e; injection e with e; omega)
        have xc0 := x3.cell 0
        have hfo : ([0] : List Int).foldl gadd 1 = gadd 1 (0) := rfl
        rw [hfo] at hb3
        obtain ⟨cv, hcv⟩ : ∃ cv, cv = gadd 1 (0) := ⟨_, rfl⟩
        rw [← hcv] at hb3
        have hcc := hb3.cell 0
        have m3 := HMP.out.of_block keyI (B3.block w1.heap.size (by omega))
        have k3 := HBK.out.below B3 hgl
        have e3 := HBE.out.trans (B3.mono HBE.out.size)
        obtain ⟨w4, hrun, m4, g4⟩ := m3.update keyI Try.underlying99 xa (.int .i64 cv)
        have hrun2 : (Instr.mapUpdate 99 (.map (some w1.heap.size)) (.int .i64 xa) (.int .i64 cv)).run Try.prog w3 = .ok () w4 := hrun
        have K4 := Lib.hid (k3.grown g4 (by intro e; injection e with e; omega))
        have E4 := Lib.hid (e3.grown g4 (by have := B3.size; omega) (fun k e => by injection e with e; omega))
        have M4 := Lib.hid m4
        have Z4 := g4.size
        have Z3 := B3.size
        have HCV := Lib.hid hcv
        clear hrun m3 k3 e3 m4 g4 B3 x3 hfo hb3 hg3 hcv
        go_wp2_with fail
        go_roundw
        case rel =>
          refine ⟨i, cv :: bs, _, by omega, by go_num, rfl, ?_, ?_, M4.out, K4.out, E4.out, by omega⟩
          · show bestM cards (ins.drop i) = _
            rw [HDR.out, bestM, HBM.out]
            simp only
            rw [show targetI ⟨xa, 34, xA, xB, xC⟩ = none from HTI.out]
            simp only
            rw [(show ownI ⟨xa, 34, xA, xB, xC⟩ bs = 0 by unfold ownI; rw [if_pos (by rfl)]), HCV.out, HCE.out]
          · show ∀ y, upd keyI f xa (some (.int .i64 cv)) y = (placeM (ins.drop i) y).map fun j => .int .i64 ((cv :: bs).getD j 0)
            intro y
            rw [upd_int, HDR.out, placeM]
            by_cases hy : xa = y
            · rw [if_pos hy.symm, if_pos hy]
              rfl
            · rw [if_neg (fun e => hy e.symm), if_neg hy, HF.out y, Option.map_map]
              rfl
        case measure => (simp [intOf]; try omega)
      by_cases q35 : xo = 35
      · subst q35
        have HTI : Hid (targetI ⟨xa, 35, xA, xB, xC⟩ = none) := rfl
        obtain ⟨WC, hWC⟩ : ∃ W, W = (wr.alloc (.cells #[.int .i64 xa, .int .u8 35, .int .i64 xA, .int .i64 xB, .int .i64 xC] 101)).alloc (.cells #[.int .i64 1] 86) := ⟨_, rfl⟩
        have zC : WC.heap.size = wr.heap.size + 1 + 1 := by rw [hWC]; simp
        have BC := Lib.hid (show Below wr.heap.size wr WC by rw [hWC]; exact ((Below.refl _ _).alloc (Nat.le_refl _) _).alloc (by simp) _)
        have GKC := Lib.hid (show Blk WC (wr.heap.size + 1) 86 #[.int .i64 1] by rw [hWC]; have := Blk.new (wr.alloc (.cells #[.int .i64 xa, .int .u8 35, .int .i64 xA, .int .i64 xB, .int .i64 xC] 101)) 86 #[.int .i64 1]; simpa using this)
        have XKC := Lib.hid (show Blk WC wr.heap.size 101 #[.int .i64 xa, .int .u8 35, .int .i64 xA, .int .i64 xB, .int .i64 xC] by rw [hWC]; exact (Blk.new _ _ _).alloc _)
        have HCO := Lib.hid one_gas
        have hce : (1 : Int) = costI ⟨xa, 35, xA, xB, xC⟩ cards := by rfl
        have HCE := Lib.hid hce
        have HWC := Lib.hid hWC
        clear hce hWC
        go_wp2_with fail
        rw [← HWC.out]
        refine (HTG.out 35 _).mono ?_
        rintro e w2 ⟨rfl, hb2⟩
        have hz2 := hb2.size
        have GK2 := Lib.hid (GKC.out.below hb2 (by omega))
        have XK2 := Lib.hid (XKC.out.below hb2 (by omega))
        have B2 := Lib.hid (BC.out.trans (hb2.mono (by omega)))
        clear hb2
        rw [show tgtV ⟨xa, 35, xA, xB, xC⟩ = .tuple #[.int .i64 0, .bool false] by unfold tgtV; rw [HTI.out]]
        go_wp2_with fail
        refine (add_any (wr.heap.size + 1) w2.heap.size 0 1 1 1 [0] (w2.alloc (.cells #[.int .i64 (0)] 86)) rfl (by omega) (GK2.out.alloc _) (gvals_blk (l := [0]) (Blk.new w2 86 #[.int .i64 (0)])) (by omega) (by simp) HCO.out (by intro y hy; simp at hy; subst hy; exact zero_gas)).mono ?_
        rintro e w3 ⟨rfl, hb3, hg3⟩
        have B3 := (B2.out.alloc (by omega) (.cells #[.int .i64 (0)] 86)).grown hg3 (by simp; omega) (fun k e => by injection e with e; omega)
        have x3 := (XK2.out.alloc (.cells #[.int .i64 (0)] 86)).grown hg3 (by intro e; injection e with e; omega)
        have xc0 := x3.cell 0
        have hfo : ([0] : List Int).foldl gadd 1 = gadd 1 (0) := rfl
        rw [hfo] at hb3
        obtain ⟨cv, hcv⟩ : ∃ cv, cv = gadd 1 (0) := ⟨_, rfl⟩
        rw [← hcv] at hb3
        have hcc := hb3.cell 0
        have m3 := HMP.out.of_block keyI (B3.block w1.heap.size (by omega))
        have k3 := HBK.out.below B3 hgl
        have e3 := HBE.out.trans (B3.mono HBE.out.size)
        obtain ⟨w4, hrun, m4, g4⟩ := m3.update keyI Try.underlying99 xa (.int .i64 cv)
        have hrun2 : (Instr.mapUpdate 99 (.map (some w1.heap.size)) (.int .i64 xa) (.int .i64 cv)).run Try.prog w3 = .ok () w4 := hrun
        have K4 := Lib.hid (k3.grown g4 (by intro e; injection e with e; omega))
        have E4 := Lib.hid (e3.grown g4 (by have := B3.size; omega) (fun k e => by injection e with e; omega))
        have M4 := Lib.hid m4
        have Z4 := g4.size
        have Z3 := B3.size
        have HCV := Lib.hid hcv
        clear hrun m3 k3 e3 m4 g4 B3 x3 hfo hb3 hg3 hcv
        go_wp2_with fail
        go_roundw
        case rel =>
          refine ⟨i, cv :: bs, _, by omega, by go_num, rfl, ?_, ?_, M4.out, K4.out, E4.out, by omega⟩
          · show bestM cards (ins.drop i) = _
            rw [HDR.out, bestM, HBM.out]
            simp only
            rw [show targetI ⟨xa, 35, xA, xB, xC⟩ = none from HTI.out]
            simp only
            rw [(show ownI ⟨xa, 35, xA, xB, xC⟩ bs = 0 by unfold ownI; rw [if_pos (by rfl)]), HCV.out, HCE.out]
          · show ∀ y, upd keyI f xa (some (.int .i64 cv)) y = (placeM (ins.drop i) y).map fun j => .int .i64 ((cv :: bs).getD j 0)
            intro y
            rw [upd_int, HDR.out, placeM]
            by_cases hy : xa = y
            · rw [if_pos hy.symm, if_pos hy]
              rfl
            · rw [if_neg (fun e => hy e.symm), if_neg hy, HF.out y, Option.map_map]
              rfl
        case measure => (simp [intOf]; try omega)
      by_cases q30 : xo = 30
      · subst q30
        obtain ⟨tg, hti⟩ : ∃ tg, targetI ⟨xa, 30, xA, xB, xC⟩ = some tg := ⟨_, rfl⟩
        have HTI := Lib.hid hti
        clear hti
        obtain ⟨WC, hWC⟩ : ∃ W, W = (wr.alloc (.cells #[.int .i64 xa, .int .u8 30, .int .i64 xA, .int .i64 xB, .int .i64 xC] 101)).alloc (.cells #[.int .i64 1] 86) := ⟨_, rfl⟩
        have zC : WC.heap.size = wr.heap.size + 1 + 1 := by rw [hWC]; simp
        have BC := Lib.hid (show Below wr.heap.size wr WC by rw [hWC]; exact ((Below.refl _ _).alloc (Nat.le_refl _) _).alloc (by simp) _)
        have GKC := Lib.hid (show Blk WC (wr.heap.size + 1) 86 #[.int .i64 1] by rw [hWC]; have := Blk.new (wr.alloc (.cells #[.int .i64 xa, .int .u8 30, .int .i64 xA, .int .i64 xB, .int .i64 xC] 101)) 86 #[.int .i64 1]; simpa using this)
        have XKC := Lib.hid (show Blk WC wr.heap.size 101 #[.int .i64 xa, .int .u8 30, .int .i64 xA, .int .i64 xB, .int .i64 xC] by rw [hWC]; exact (Blk.new _ _ _).alloc _)
        have HCO := Lib.hid one_gas
        have hce : (1 : Int) = costI ⟨xa, 30, xA, xB, xC⟩ cards := by rfl
        have HCE := Lib.hid hce
        have HWC := Lib.hid hWC
        clear hce hWC
        go_wp2_with fail
        rw [← HWC.out]
        refine (HTG.out 30 _).mono ?_
        rintro e w2 ⟨rfl, hb2⟩
        have hz2 := hb2.size
        have GK2 := Lib.hid (GKC.out.below hb2 (by omega))
        have XK2 := Lib.hid (XKC.out.below hb2 (by omega))
        have B2 := Lib.hid (BC.out.trans (hb2.mono (by omega)))
        clear hb2
        rw [show tgtV ⟨xa, 30, xA, xB, xC⟩ = .tuple #[.int .i64 tg, .bool true] by unfold tgtV; rw [HTI.out]]
        have hlk := (HMP.out.of_block keyI (B2.out.block w1.heap.size (by omega))).lookup keyI Try.underlying99 zero_gasv tg true
        rw [HF.out tg] at hlk
        have hemb : keyI.emb tg = .int .i64 tg := rfl
        rw [hemb] at hlk
        cases hp : placeM (ins.drop (i + 1)) tg with
        | none =>
          rw [hp] at hlk
          have hlk : (Instr.lookup 99 (.map (some w1.heap.size)) (.int .i64 tg) true).run Try.prog w2 = .ok (.tuple #[.int .i64 0, .bool false]) w2 := hlk
          have hbn : bestM cards ins = none := bestM_none i ins (by rw [HDR.out, bestM, HBM.out]; simp only; rw [show targetI ⟨xa, 30, xA, xB, xC⟩ = some tg from HTI.out]; simp only; rw [hp])
          have HBN := Lib.hid hbn
          have HBF := Lib.hid (HBE.out.trans (B2.out.mono HBE.out.size))
          clear hbn hp
          go_wp2_with fail
          go_ret2
          exact ⟨by rw [HR.out, HBN.out]; rfl, HBF.out⟩
        | some kk =>
          rw [hp] at hlk
          obtain ⟨bk, hbk⟩ : ∃ bk, bk = bs.getD kk 0 := ⟨_, rfl⟩
          have hlk : (Instr.lookup 99 (.map (some w1.heap.size)) (.int .i64 tg) true).run Try.prog w2 = .ok (.tuple #[.int .i64 bk, .bool true]) w2 := by rw [hbk]; exact hlk
          have hbkg : IsGas bk := by rw [hbk]; exact getD_gas HBG.out _
          have HBKG := Lib.hid hbkg
          have HBKE := Lib.hid hbk
          have HP := Lib.hid hp
          clear hbkg hbk hp
          go_wp2_with fail
          refine (greater_any 0 bk _).mono ?_
          rintro e w2' ⟨rfl, rfl⟩
          obtain ⟨mv, hmv⟩ : ∃ mv, mv = max (0 : Int) bk := ⟨_, rfl⟩
          have hmg : IsGas mv := by have h1 := HBKG.out; have h2 := zero_gas; rw [hmv]; unfold IsGas at *; omega
          rw [← hmv]
          have HMV := Lib.hid hmv
          have HMG := Lib.hid hmg
          clear hmv hmg hlk
          go_wp2_with fail
          refine (add_any (wr.heap.size + 1) w2.heap.size 0 1 1 1 [mv] (w2.alloc (.cells #[.int .i64 (mv)] 86)) rfl (by omega) (GK2.out.alloc _) (gvals_blk (l := [mv]) (Blk.new w2 86 #[.int .i64 (mv)])) (by omega) (by simp) HCO.out (by intro y hy; simp at hy; subst hy; exact HMG.out)).mono ?_
          rintro e w3 ⟨rfl, hb3, hg3⟩
          have B3 := (B2.out.alloc (by omega) (.cells #[.int .i64 (mv)] 86)).grown hg3 (by simp; omega) (fun k e => by injection e with e; omega)
          have x3 := (XK2.out.alloc (.cells #[.int .i64 (mv)] 86)).grown hg3 (by intro e; injection e with e; omega)
          have xc0 := x3.cell 0
          have hfo : ([mv] : List Int).foldl gadd 1 = gadd 1 (mv) := rfl
          rw [hfo] at hb3
          obtain ⟨cv, hcv⟩ : ∃ cv, cv = gadd 1 (mv) := ⟨_, rfl⟩
          rw [← hcv] at hb3
          have hcc := hb3.cell 0
          have m3 := HMP.out.of_block keyI (B3.block w1.heap.size (by omega))
          have k3 := HBK.out.below B3 hgl
          have e3 := HBE.out.trans (B3.mono HBE.out.size)
          obtain ⟨w4, hrun, m4, g4⟩ := m3.update keyI Try.underlying99 xa (.int .i64 cv)
          have hrun2 : (Instr.mapUpdate 99 (.map (some w1.heap.size)) (.int .i64 xa) (.int .i64 cv)).run Try.prog w3 = .ok () w4 := hrun
          have K4 := Lib.hid (k3.grown g4 (by intro e; injection e with e; omega))
          have E4 := Lib.hid (e3.grown g4 (by have := B3.size; omega) (fun k e => by injection e with e; omega))
          have M4 := Lib.hid m4
          have Z4 := g4.size
          have Z3 := B3.size
          have HCV := Lib.hid hcv
          clear hrun m3 k3 e3 m4 g4 B3 x3 hfo hb3 hg3 hcv
          go_wp2_with fail
          go_roundw
          case rel =>
            refine ⟨i, cv :: bs, _, by omega, by go_num, rfl, ?_, ?_, M4.out, K4.out, E4.out, by omega⟩
            · show bestM cards (ins.drop i) = _
              rw [HDR.out, bestM, HBM.out]
              simp only
              rw [show targetI ⟨xa, 30, xA, xB, xC⟩ = some tg from HTI.out]
              simp only
              rw [HP.out]
              simp only
              rw [(show ownI ⟨xa, 30, xA, xB, xC⟩ bs = 0 by unfold ownI; rw [if_pos (by rfl)]), ← HBKE.out, ← HMV.out, HCV.out, HCE.out]
            · show ∀ y, upd keyI f xa (some (.int .i64 cv)) y = (placeM (ins.drop i) y).map fun j => .int .i64 ((cv :: bs).getD j 0)
              intro y
              rw [upd_int, HDR.out, placeM]
              by_cases hy : xa = y
              · rw [if_pos hy.symm, if_pos hy]
                rfl
              · rw [if_neg (fun e => hy e.symm), if_neg hy, HF.out y, Option.map_map]
                rfl
          case measure => (simp [intOf]; try omega)
      have s34 : (xo == 34) = false := beq_false_of q34
      have s35 : (xo == 35) = false := beq_false_of q35
      have s30 : (xo == 30) = false := beq_false_of q30
      have s46 : (xo == 46) = false := beq_false_of q46
      have s44 : (xo == 44) = false := beq_false_of q44
      have s60 : (xo == 60) = false := beq_false_of q60
      have hst : stopI ⟨xa, xo, xA, xB, xC⟩ = false := by unfold stopI; simp only; rw [s30, s34, s35]; rfl
      have HST := Lib.hid hst
      clear hst
      obtain ⟨WC, hWC⟩ : ∃ W, W = (wr.alloc (.cells #[.int .i64 xa, .int .u8 xo, .int .i64 xA, .int .i64 xB, .int .i64 xC] 101)).alloc (.cells #[.int .i64 1] 86) := ⟨_, rfl⟩
      have zC : WC.heap.size = wr.heap.size + 1 + 1 := by rw [hWC]; simp
      have BC := Lib.hid (show Below wr.heap.size wr WC by rw [hWC]; exact ((Below.refl _ _).alloc (Nat.le_refl _) _).alloc (by simp) _)
      have GKC := Lib.hid (show Blk WC (wr.heap.size + 1) 86 #[.int .i64 1] by rw [hWC]; have := Blk.new (wr.alloc (.cells #[.int .i64 xa, .int .u8 xo, .int .i64 xA, .int .i64 xB, .int .i64 xC] 101)) 86 #[.int .i64 1]; simpa using this)
      have XKC := Lib.hid (show Blk WC wr.heap.size 101 #[.int .i64 xa, .int .u8 xo, .int .i64 xA, .int .i64 xB, .int .i64 xC] by rw [hWC]; exact (Blk.new _ _ _).alloc _)
      have HCO := Lib.hid one_gas
      have hce : (1 : Int) = costI ⟨xa, xo, xA, xB, xC⟩ cards := by unfold costI; rw [if_neg q46, if_neg q44, if_neg q60]
      have HCE := Lib.hid hce
      have HWC := Lib.hid hWC
      clear hce hWC
      go_wp2_with fail
      rw [← HWC.out]
      refine (HTG.out xo _).mono ?_
      rintro e w2 ⟨rfl, hb2⟩
      have hz2 := hb2.size
      have GK2 := Lib.hid (GKC.out.below hb2 (by omega))
      have XK2 := Lib.hid (XKC.out.below hb2 (by omega))
      have B2 := Lib.hid (BC.out.trans (hb2.mono (by omega)))
      clear hb2
      cases hti : targetI ⟨xa, xo, xA, xB, xC⟩ with
      | none =>
        have HTI := Lib.hid hti
        clear hti
        rw [show tgtV ⟨xa, xo, xA, xB, xC⟩ = .tuple #[.int .i64 0, .bool false] by unfold tgtV; rw [HTI.out]]
        go_wp2_with fail
        refine (add_any (wr.heap.size + 1) w2.heap.size 0 1 1 1 [hd] (w2.alloc (.cells #[.int .i64 (hd)] 86)) rfl (by omega) (GK2.out.alloc _) (gvals_blk (l := [hd]) (Blk.new w2 86 #[.int .i64 (hd)])) (by omega) (by simp) HCO.out (by intro y hy; simp at hy; subst hy; exact HG0.out)).mono ?_
        rintro e w3 ⟨rfl, hb3, hg3⟩
        have B3 := (B2.out.alloc (by omega) (.cells #[.int .i64 (hd)] 86)).grown hg3 (by simp; omega) (fun k e => by injection e with e; omega)
        have x3 := (XK2.out.alloc (.cells #[.int .i64 (hd)] 86)).grown hg3 (by intro e; injection e with e; omega)
        have xc0 := x3.cell 0
        have hfo : ([hd] : List Int).foldl gadd 1 = gadd 1 (hd) := rfl
        rw [hfo] at hb3
        obtain ⟨cv, hcv⟩ : ∃ cv, cv = gadd 1 (hd) := ⟨_, rfl⟩
        rw [← hcv] at hb3
        have hcc := hb3.cell 0
        have m3 := HMP.out.of_block keyI (B3.block w1.heap.size (by omega))
        have k3 := HBK.out.below B3 hgl
        have e3 := HBE.out.trans (B3.mono HBE.out.size)
        obtain ⟨w4, hrun, m4, g4⟩ := m3.update keyI Try.underlying99 xa (.int .i64 cv)
        have hrun2 : (Instr.mapUpdate 99 (.map (some w1.heap.size)) (.int .i64 xa) (.int .i64 cv)).run Try.prog w3 = .ok () w4 := hrun
        have K4 := Lib.hid (k3.grown g4 (by intro e; injection e with e; omega))
        have E4 := Lib.hid (e3.grown g4 (by have := B3.size; omega) (fun k e => by injection e with e; omega))
        have M4 := Lib.hid m4
        have Z4 := g4.size
        have Z3 := B3.size
        have HCV := Lib.hid hcv
        clear hrun m3 k3 e3 m4 g4 B3 x3 hfo hb3 hg3 hcv
        go_wp2_with fail
        go_roundw
        case rel =>
          refine ⟨i, cv :: bs, _, by omega, by go_num, rfl, ?_, ?_, M4.out, K4.out, E4.out, by omega⟩
          · show bestM cards (ins.drop i) = _
            rw [HDR.out, bestM, HBM.out]
            simp only
            rw [show targetI ⟨xa, xo, xA, xB, xC⟩ = none from HTI.out]
            simp only
            rw [(show ownI ⟨xa, xo, xA, xB, xC⟩ bs = hd by unfold ownI; rw [if_neg (by rw [HST.out]; decide), HHD.out]), HCV.out, HCE.out]
          · show ∀ y, upd keyI f xa (some (.int .i64 cv)) y = (placeM (ins.drop i) y).map fun j => .int .i64 ((cv :: bs).getD j 0)
            intro y
            rw [upd_int, HDR.out, placeM]
            by_cases hy : xa = y
            · rw [if_pos hy.symm, if_pos hy]
              rfl
            · rw [if_neg (fun e => hy e.symm), if_neg hy, HF.out y, Option.map_map]
              rfl
        case measure => (simp [intOf]; try omega)
      | some tg =>
        have HTI := Lib.hid hti
        clear hti
        rw [show tgtV ⟨xa, xo, xA, xB, xC⟩ = .tuple #[.int .i64 tg, .bool true] by unfold tgtV; rw [HTI.out]]
        have hlk := (HMP.out.of_block keyI (B2.out.block w1.heap.size (by omega))).lookup keyI Try.underlying99 zero_gasv tg true
        rw [HF.out tg] at hlk
        have hemb : keyI.emb tg = .int .i64 tg := rfl
        rw [hemb] at hlk
        cases hp : placeM (ins.drop (i + 1)) tg with
        | none =>
          rw [hp] at hlk
          have hlk : (Instr.lookup 99 (.map (some w1.heap.size)) (.int .i64 tg) true).run Try.prog w2 = .ok (.tuple #[.int .i64 0, .bool false]) w2 := hlk
          have hbn : bestM cards ins = none := bestM_none i ins (by rw [HDR.out, bestM, HBM.out]; simp only; rw [show targetI ⟨xa, xo, xA, xB, xC⟩ = some tg from HTI.out]; simp only; rw [hp])
          have HBN := Lib.hid hbn
          have HBF := Lib.hid (HBE.out.trans (B2.out.mono HBE.out.size))
          clear hbn hp
          go_wp2_with fail
          go_ret2
          exact ⟨by rw [HR.out, HBN.out]; rfl, HBF.out⟩
        | some kk =>
          rw [hp] at hlk
          obtain ⟨bk, hbk⟩ : ∃ bk, bk = bs.getD kk 0 := ⟨_, rfl⟩
          have hlk : (Instr.lookup 99 (.map (some w1.heap.size)) (.int .i64 tg) true).run Try.prog w2 = .ok (.tuple #[.int .i64 bk, .bool true]) w2 := by rw [hbk]; exact hlk
          have hbkg : IsGas bk := by rw [hbk]; exact getD_gas HBG.out _
          have HBKG := Lib.hid hbkg
          have HBKE := Lib.hid hbk
          have HP := Lib.hid hp
          clear hbkg hbk hp
          go_wp2_with fail
          refine (greater_any hd bk _).mono ?_
          rintro e w2' ⟨rfl, rfl⟩
          obtain ⟨mv, hmv⟩ : ∃ mv, mv = max hd bk := ⟨_, rfl⟩
          have hmg : IsGas mv := by have h1 := HBKG.out; have h2 := HG0.out; rw [hmv]; unfold IsGas at *; omega
          rw [← hmv]
          have HMV := Lib.hid hmv
          have HMG := Lib.hid hmg
          clear hmv hmg hlk
          go_wp2_with fail
          refine (add_any (wr.heap.size + 1) w2.heap.size 0 1 1 1 [mv] (w2.alloc (.cells #[.int .i64 (mv)] 86)) rfl (by omega) (GK2.out.alloc _) (gvals_blk (l := [mv]) (Blk.new w2 86 #[.int .i64 (mv)])) (by omega) (by simp) HCO.out (by intro y hy; simp at hy; subst hy; exact HMG.out)).mono ?_
          rintro e w3 ⟨rfl, hb3, hg3⟩
          have B3 := (B2.out.alloc (by omega) (.cells #[.int .i64 (mv)] 86)).grown hg3 (by simp; omega) (fun k e => by injection e with e; omega)
          have x3 := (XK2.out.alloc (.cells #[.int .i64 (mv)] 86)).grown hg3 (by intro e; injection e with e; omega)
          have xc0 := x3.cell 0
          have hfo : ([mv] : List Int).foldl gadd 1 = gadd 1 (mv) := rfl
          rw [hfo] at hb3
          obtain ⟨cv, hcv⟩ : ∃ cv, cv = gadd 1 (mv) := ⟨_, rfl⟩
          rw [← hcv] at hb3
          have hcc := hb3.cell 0
          have m3 := HMP.out.of_block keyI (B3.block w1.heap.size (by omega))
          have k3 := HBK.out.below B3 hgl
          have e3 := HBE.out.trans (B3.mono HBE.out.size)
          obtain ⟨w4, hrun, m4, g4⟩ := m3.update keyI Try.underlying99 xa (.int .i64 cv)
          have hrun2 : (Instr.mapUpdate 99 (.map (some w1.heap.size)) (.int .i64 xa) (.int .i64 cv)).run Try.prog w3 = .ok () w4 := hrun
          have K4 := Lib.hid (k3.grown g4 (by intro e; injection e with e; omega))
          have E4 := Lib.hid (e3.grown g4 (by have := B3.size; omega) (fun k e => by injection e with e; omega))
          have M4 := Lib.hid m4
          have Z4 := g4.size
          have Z3 := B3.size
          have HCV := Lib.hid hcv
          clear hrun m3 k3 e3 m4 g4 B3 x3 hfo hb3 hg3 hcv
          go_wp2_with fail
          go_roundw
          case rel =>
            refine ⟨i, cv :: bs, _, by omega, by go_num, rfl, ?_, ?_, M4.out, K4.out, E4.out, by omega⟩
            · show bestM cards (ins.drop i) = _
              rw [HDR.out, bestM, HBM.out]
              simp only
              rw [show targetI ⟨xa, xo, xA, xB, xC⟩ = some tg from HTI.out]
              simp only
              rw [HP.out]
              simp only
              rw [(show ownI ⟨xa, xo, xA, xB, xC⟩ bs = hd by unfold ownI; rw [if_neg (by rw [HST.out]; decide), HHD.out]), ← HBKE.out, ← HMV.out, HCV.out, HCE.out]
            · show ∀ y, upd keyI f xa (some (.int .i64 cv)) y = (placeM (ins.drop i) y).map fun j => .int .i64 ((cv :: bs).getD j 0)
              intro y
              rw [upd_int, HDR.out, placeM]
              by_cases hy : xa = y
              · rw [if_pos hy.symm, if_pos hy]
                rfl
              · rw [if_neg (fun e => hy e.symm), if_neg hy, HF.out y, Option.map_map]
                rfl
          case measure => (simp [intOf]; try omega)
end Go.Proofs.Ytggibiodeecljaa
namespace Go.Proofs.Ytggibiodeecljaa
open Go.RowKit
set_option linter.unusedVariables false

set_option maxRecDepth 100000 in
set_option maxHeartbeats 4000000 in
theorem codes_any (A : Option Addr) (l : List Int) (c : Nat) (cards : Int) (w : World) (hl : l.length ≤ 281474976710656) (hb : BytesAt w A l) :
    Calls Try.prog 5 #[.slice A l.length c, .int .i64 cards] w fun e w' => e = .returned (.bool true) ∧ Below w.heap.size w w' := by
  obtain ⟨n, hn⟩ : ∃ n, l.length = n := ⟨_, rfl⟩
  by_cases hbig : 262144 < n
  · have hbI : (262144 : Int) < n := by omega
    rw [hn] at hl ⊢
    clear hn hb
    go_enter Try.func5, Try.ntmps5
    go_wp2_with fail
    go_ret
    exact ⟨rfl, Below.refl _ _⟩
  have hbI : (n : Int) ≤ 262144 := by omega
  have hwi := wideBytes_any A l c w (by omega) hb
  have hby := hb.byte
  have hco := fun (wx : World) (hk : Blk wx w.heap.size 5 (byteVals (wideB l)).toArray) => code_any (some ⟨w.heap.size, 0, none⟩) l (n + 64) cards wx (by omega) (by omega) (bytesAt_wide hby hk)
  have hrf := fun (wx : World) (h : Below w.heap.size w wx) => code18_any A l c cards wx (by omega) (hb.below h)
  have heq := fun (wx : World) (h : Below w.heap.size w wx) (hk : Blk wx w.heap.size 5 (byteVals (wideB l)).toArray) => eqBytes_same (some ⟨w.heap.size, 0, none⟩) A l (n + 64) c wx (by omega) (bytesAt_wide hby hk) (hb.below h)
  have hsp := fun (wx : World) (hk : Blk wx w.heap.size 5 (byteVals (wideB l)).toArray) => spareBytes_any w.heap.size l wx (by omega) hk
  obtain ⟨v, q, hvq⟩ : ∃ v q, codeM l cards = (v, q) := ⟨_, _, rfl⟩
  simp only [hvq] at hco hrf
  simp only [hn] at hwi hco hrf heq hsp hl ⊢
  have HWI := Lib.hid hwi
  have HCO := Lib.hid hco
  have HRF := Lib.hid hrf
  have HEQ := Lib.hid heq
  have HSP := Lib.hid hsp
  have HL := Lib.hid lives_any
  have hvv : (v == v) = true := by simp
  have hqq : (q == q) = true := by simp
  clear hwi hco hrf heq hsp hby hb hn hvq
  go_enter Try.func5, Try.ntmps5
  go_wp2_with fail
  refine HWI.out.mono ?_
  rintro e w1 ⟨rfl, hk1, hb1⟩
  have hz1 := hb1.size
  have hlt1 := hk1.lt
  have K1 := Lib.hid hk1
  have B1 := Lib.hid hb1
  clear hk1 hb1
  go_wp2_with fail
  refine (HCO.out _ K1.out).mono ?_
  rintro e w2 ⟨rfl, hb2⟩
  have hz2 := hb2.size
  have K2 := Lib.hid (K1.out.below hb2 hlt1)
  have B2 := Lib.hid (B1.out.trans (hb2.mono (by omega)))
  clear hb2
  go_wp2_with fail
  refine (HRF.out _ B2.out).mono ?_
  rintro e w3 ⟨rfl, hb3⟩
  have hz3 := hb3.size
  have K3 := Lib.hid (K2.out.below hb3 (by omega))
  have B3 := Lib.hid (B2.out.trans (hb3.mono (by omega)))
  clear hb3
  go_wp2_with fail
  refine (HEQ.out _ B3.out K3.out).mono ?_
  rintro e w4 ⟨rfl, hb4⟩
  have hz4 := hb4.size
  have K4 := Lib.hid (K3.out.below hb4 (by omega))
  have B4 := Lib.hid (B3.out.trans (hb4.mono (by omega)))
  clear hb4
  go_wp2_with fail
  refine (HSP.out _ K4.out).mono ?_
  rintro e w5 ⟨rfl, rfl⟩
  go_wp2_with fail
  refine (HL.out _).mono ?_
  rintro e w6 ⟨rfl, hb6⟩
  have B6 := Lib.hid (B4.out.trans (hb6.mono (by omega)))
  clear hb6
  go_wp2_with fail
  go_ret
  exact ⟨rfl, B6.out⟩
end Go.Proofs.Ytggibiodeecljaa
namespace Go.Proofs.Ytggibiodeecljaa
open Go.ChangeShapes Go.WideShapes Go.ChangeAt Go.RowKit Go.Joins Go.Deep
set_option linter.unusedVariables false

theorem cells_u8 : Try.prog.cellsOf 5 = 1 := by kernel_rfl
theorem bytes_u8 : Try.prog.bytesOf 5 = 1 := by kernel_rfl
theorem wf_u8 {n : Int} (h : (Lit.int .u8 n).wf = true) : 0 ≤ n ∧ n ≤ 255 := by
  simp only [Lit.wf, IntKind.min, IntKind.max, IntKind.signed, IntKind.bits, Bool.and_eq_true] at h
  simp at h
  omega
set_option maxRecDepth 100000 in
theorem open_bytes {H : Type} {enc : TypeId × Value → H} {W : World} {base : Nat} {v : Value} {d : DataW H} {p : List MemPlace} (hv : Value.okWide Try.prog W .any base 32 v) (h : DataW.Trod enc Try.prog W 0 (fun _ => true) true 32 v d p) (hr : ∀ n ∈ d.weights Try.prog 32, n ≤ reachBytes) :
    ∃ A l c, v = .slice A (l : List Int).length c ∧ BytesAt W A l ∧ l.length ≤ reachBytes := by
  obtain ⟨a0, n0, c0, rfl⟩ := okWide_slice Try.underlying32 hv
  obtain ⟨fuel, hf⟩ := h
  rcases open_ints Try.underlying32 Try.underlying5 cells_u8 hf with ⟨hcs, hx⟩ | ⟨a, n1, c1, zs, hcs, hb, hl, hm, hz, hx, hcell, hwz⟩
  · obtain ⟨rfl, rfl, rfl⟩ : a0 = none ∧ n0 = 0 ∧ c0 = 0 := by simpa [Value.cells] using hcs
    exact ⟨none, [], 0, rfl, ⟨fun x hx => by simp at hx, fun k x hk => by simp at hk⟩, by simp⟩
  · obtain ⟨rfl, rfl, rfl⟩ : a0 = some a ∧ n1 = n0 ∧ c1 = c0 := by simp [Value.cells] at hcs; exact ⟨hcs.1, hcs.2.1.symm, hcs.2.2.symm⟩
    have hzl : n1 ≤ zs.length := by rw [hz]; split <;> omega
    have hlen : (zs.take n1).length = n1 := by rw [List.length_take]; omega
    refine ⟨some a, zs.take n1, c1, by rw [hlen], ⟨fun x hx => wf_u8 (hwz x (List.mem_of_mem_take hx)), ?_⟩, ?_⟩
    · intro k x hk
      rw [List.getElem?_take] at hk
      split at hk
      · rename_i hkl
        obtain ⟨b, off, rfl, hc⟩ := ints_at hcell (by omega)
        have h1 := hc k (by omega)
        rw [List.getD_eq_getElem?_getD, hk] at h1
        exact ⟨b, off, rfl, cell_lt h1, h1⟩
      · cases hk
    · have h1 := hr ((List.take n1 zs).length * 1 + (zs.drop n1).length * 1) (by
        injection hx with hx1 hx2
        subst hx1
        simp [DataW.weights, Try.underlying32, bytes_u8, lits])
      omega

set_option maxRecDepth 100000 in
theorem codesLifted (os : Os) (started : os.Started) (H : Type) (enc : TypeId × Value → H) :
    ReturnsInHanded {} Try.checked os 5 .any (Rows.boundCodesSpec.pre6 enc Try.prog Try.f5 Rows.boundCodesRow.domain false) (Rows.boundCodesSpec.post enc Try.prog Try.f5 false true false false) := by
  refine returnsInHanded_of_change_sized (C := Try.checked) own_ started (by kernel_rfl) Try.func5
    (ChangeSpec.witness6 (enc := enc) (C := Try.checked) false ⟨#[], #[.slice none 0 0, .int .i64 0], []⟩ 8 (by kernel_rfl) (by kernel_rfl) (by kernel_rfl) (by kernel_rfl)) ?_
  intro W base args ds gs before hval0 hW hcnd hsz0 _
  have hval : ∀ (j : Nat) t v, Try.f5.params[j]? = some t → args[j]? = some v → Value.okWide Try.prog W .any base t v := hval0
  have hsz : (DataW.weightsEach Try.prog (Try.f5.params.toList ++ Rows.boundCodesSpec.plain.varTypes Try.prog) (ds ++ gs)).all (· ≤ reachBytes) = true := hsz0
  have hW' := hW
  obtain ⟨p, q, hA0, hV, rfl, hfz, hnd⟩ := hW
  have hA : DataW.TrodAll enc Try.prog W 0 (fun _ => true) true Try.f5.params.toList args.toList ds p := hA0
  rw [Try.params5] at hA hval hsz
  obtain ⟨v0, vs0, d0, ds0, p0, q0, hargs, rfl, rfl, h0, r0⟩ := trodAll_cons hA
  obtain ⟨v1, vs1, d1, ds1, p1, q1, rfl, rfl, rfl, h1, r1⟩ := trodAll_cons r0
  obtain ⟨rfl, rfl, rfl⟩ := trodAll_nil r1
  obtain rfl : args = #[v0, v1] := by cases args; simp_all
  obtain ⟨rfl, rfl⟩ := trodVars_none hV
  have k0 := h0
  have lt0 : ∀ x ∈ p0, x.block < W.heap.size := by obtain ⟨m, hm⟩ := k0; exact DataW.trod_lt m _ _ _ hm
  obtain ⟨A, l, c, rfl, hB, hlr⟩ := open_bytes (hval 0 32 v0 rfl rfl) h0 (fun n hn => by
    have := List.all_eq_true.1 hsz n (DataW.weights_mem_each (j := 0) rfl rfl n hn)
    simpa using this)
  obtain ⟨a1, rfl, rfl, rfl, w1⟩ := open_int Try.underlying3 (hval 1 3 v1 rfl rfl) h1
  clear hA0 hval0 hsz hsz0
  have hR : reachBytes = 140737488351232 := rfl
  refine (codes_any A l c a1 W (by omega) hB).mono fun e W' ⟨he, bel⟩ => ?_
  subst he
  exact ⟨_, rfl, _, _, _, [], _, [], hW', trodAll_mk1 (shut_bool Try.underlying4 _), (trodAll_cons_mk (Below.trod laidOut_ (by kernel_rfl) (of_decide_eq_true (by kernel_rfl)) k0 bel lt0) (trodAll_cons_mk (shut_int Try.underlying3 w1) trodAll_mk0)), rfl, bel.frame _, fun h => by cases h⟩

/-- The law BoundCodes holds. -/
theorem boundCodes_holds : Rows.BoundCodesSaid :=
  OpenClaim.holds_of_wide 5 Try.f5 rfl rfl rfl rfl rfl rfl rfl ⟨rfl, rfl, rfl, rfl, rfl⟩ rfl rfl rfl rfl rfl (by kernel_rfl) Try.func5 (by kernel_rfl)
    (of_decide_eq_true (by kernel_rfl)) (by unfold Func.isWrapper; first | (rw [if_pos (by decide +kernel)]; kernel_rfl) | (rw [if_neg (by decide +kernel)]; exact ⟨rfl, rfl⟩))
    (fun os started H enc _ => codesLifted os started H enc)
end Go.Proofs.Ytggibiodeecljaa
