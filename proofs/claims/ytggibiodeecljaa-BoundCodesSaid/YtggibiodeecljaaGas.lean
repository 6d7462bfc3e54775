/- Package bound's gas: add, times, greater, costs, sides. -/
import Derived.Test.YtggibiodeecljaaMGas
import Derived.Test.YtggibiodeecljaaStmt2
import Derived.Test.YtggibiodeecljaaSign
import Derived.Deep.RegionHeld3
namespace Go.Proofs.Ytggibiodeecljaa
open Go.RowKit

theorem gb_trans {w w1 w2 : World} {x : Nat} {row : Option Nat} (h : w.grownBy w1 (some x)) (k : w1.grownBy w2 row) (hr : ∀ g, row = some g → g = x ∨ w.heap.size ≤ g) : w.grownBy w2 (some x) := by
  refine ⟨k.os.trans h.os, k.tape.trans h.tape, k.output.trans h.output, Nat.le_trans h.size k.size, fun i hi hne => ?_⟩
  have h1 := h.block i hi hne
  rw [k.block i (Nat.lt_of_lt_of_le hi h.size) ?_, h1]
  intro e
  rcases hr i e.symm with rfl | hg
  · exact hne rfl
  · omega
theorem gb_refl (w : World) (row : Option Nat) : w.grownBy w row := ⟨rfl, rfl, rfl, Nat.le_refl _, fun _ _ _ => rfl⟩
theorem gb_below {w w' : World} (h : Below w.heap.size w w') (row : Option Nat) : w.grownBy w' row := ⟨h.os, h.tape, h.output, h.size, fun i hi _ => h.block i hi⟩
theorem gb_alloc (w : World) (o : Obj) (row : Option Nat) : w.grownBy (w.alloc o) row := gb_below ((Below.refl _ _).alloc (Nat.le_refl _) o) row
theorem gb_drew {w w' : World} {row : Option Nat} (h : w.grownBy w' row) : w.grownBy w'.drew row := ⟨h.os, h.tape, h.output, h.size, h.block⟩
theorem gb_blk {w w' : World} {row : Option Nat} {g : Nat} {t : TypeId} {cs : Array Value} (h : w.grownBy w' row) (hb : Blk w g t cs) (hne : some g ≠ row) : Blk w' g t cs := hb.grown h hne
theorem gb_nodes {w w' : World} {x b off : Nat} {ts : List Node} (h : w.grownBy w' (some x)) (hn : NodesAt w b off ts) (hb : b < w.heap.size) (hne : b ≠ x) : NodesAt w' b off ts := by
  intro i y hy j v hv
  have := hn i y hy j v hv
  have hbl := h.block b hb (fun e => hne (by injection e))
  rw [← this]
  unfold World.cell?
  rw [hbl]

def gvals (l : List Int) : List Value := l.map (Value.int .i64)

theorem foldl_take_succ (l : List Int) (a : Int) (k : Nat) (x : Int) (h : l[k]? = some x) : (l.take (k + 1)).foldl gadd a = gadd ((l.take k).foldl gadd a) x := by
  rw [List.take_add_one, h, List.foldl_append]
  rfl

set_option maxRecDepth 100000 in
set_option maxHeartbeats 800000 in
/-- gas.add. -/
theorem add_any (gb lb off ln cl : Nat) (a : Int) (l : List Int) (w : World) (hln : l.length = ln) (hl : ln ≤ 100000) (hg : Blk w gb 86 #[.int .i64 a]) (hc : CellsAt w lb off (gvals l)) (hne : lb ≠ gb) (hlt : 0 < ln → lb < w.heap.size) (ha : IsGas a) (hgs : ∀ x ∈ l, IsGas x) :
    Calls Try.prog 46 #[.pointer (some ⟨gb, 0, none⟩), .slice (some ⟨lb, off, none⟩) ln cl] w fun e w' => e = .returned (.tuple #[]) ∧ Blk w' gb 86 #[.int .i64 (l.foldl gadd a)] ∧ w.grownBy w' (some gb) := by
  obtain ⟨R, hR⟩ : ∃ R, R = l.foldl gadd a := ⟨_, rfl⟩
  rw [← hR]
  have hsz := hg.lt
  have HR := Lib.hid hR
  have HLN := Lib.hid hln
  have HG := Lib.hid hg
  have HC := Lib.hid hc
  have HA := Lib.hid ha
  have HGS := Lib.hid hgs
  clear hR hln hg hc ha hgs
  go_enter Try.func46, Try.ntmps46
  go_wp2_with fail
  go_loopw [5, 8] (fun _ iv wr => ∃ (k : Nat) (V : Int), k ≤ ln ∧ iv = .int .i64 k ∧ 0 ≤ V ∧ V ≤ 4611686018427387904 ∧ Hid (V = (l.take k).foldl gadd a) ∧ Blk wr gb 86 #[.int .i64 V] ∧ w.grownBy wr (some gb))
    (fun _ iv _ => ln - (intOf iv).toNat)
  case atStart => exact ⟨0, a, by omega, rfl, HA.out.1, HA.out.2, rfl, HG.out, gb_refl _ _⟩
  case round =>
    obtain ⟨k, V, hk, rfl, hV0, hV1, HV, hblk, hgr⟩ := hrel
    by_cases hlt2 : k < ln
    · obtain ⟨x, hx⟩ : ∃ x, l[k]? = some x := ⟨_, List.getElem?_eq_getElem (by rw [HLN.out]; exact hlt2)⟩
      have hxg := HGS.out x (List.mem_of_getElem? hx)
      obtain ⟨hx0, hx1⟩ : 0 ≤ x ∧ x ≤ 4611686018427387904 := hxg
      have hcell : wr.cell? ⟨lb, off + k, none⟩ = some (.int .i64 x) := by
        have h1 := HC.out k (.int .i64 x) (by simp [gvals, hx])
        have hbl := hgr.block lb (hlt (by omega)) (fun e => hne (by injection e))
        rw [← h1]
        unfold World.cell?
        rw [hbl]
      have c0 := hblk.cell 0
      have z0 := hblk.frozen 0
      have hnx := foldl_take_succ l a k x hx
      rw [← HV.out] at hnx
      have HNX := Lib.hid hnx
      have HB := Lib.hid hblk
      have HGR := Lib.hid hgr
      clear hnx hx hblk hgr
      by_cases hbig : 4611686018427387904 - V < x
      · go_wp2_with fail
        go_roundw
        case rel =>
          refine ⟨k + 1, _, by omega, by go_num, by omega, by omega, ?_, HB.out.set_ 0 _, gb_trans HGR.out (grownBy_set _ rfl _) (fun g e => .inl (by injection e with e; exact e.symm))⟩
          show _ = _
          rw [HNX.out]
          unfold gadd maxB
          rw [if_pos hbig]
        case measure => (simp [intOf]; try omega)
      · go_wp2_with fail
        go_roundw
        case rel =>
          refine ⟨k + 1, V + x, by omega, by go_num, by omega, by omega, ?_, HB.out.set_ 0 _, gb_trans HGR.out (grownBy_set _ rfl _) (fun g e => .inl (by injection e with e; exact e.symm))⟩
          show _ = _
          rw [HNX.out]
          unfold gadd maxB
          rw [if_neg hbig]
        case measure => (simp [intOf]; try omega)
    · have hkn : k = ln := by omega
      have hfin : R = V := by rw [HR.out, HV.out, List.take_of_length_le (by rw [HLN.out]; omega)]
      have HFin := Lib.hid hfin
      clear hfin
      go_wp2_with fail
      go_end0
      exact ⟨rfl, by rw [HFin.out]; exact hblk, hgr⟩

set_option maxRecDepth 100000 in
set_option maxHeartbeats 800000 in
/-- gas.times. -/
theorem times_any (g n : Int) (w : World) (hg : IsGas g) (hn0 : 0 ≤ n) (hn1 : n ≤ 1000) :
    Calls Try.prog 87 #[.int .i64 g, .int .i64 n] w fun e w' => e = .returned (.int .i64 (gtimes g n)) ∧ w = w' := by
  obtain ⟨hg0, hg1⟩ : 0 ≤ g ∧ g ≤ 4611686018427387904 := hg
  have hres := (gtimes_gas hg0 hn0)
  obtain ⟨R, hR⟩ : ∃ R, R = gtimes g n := ⟨_, rfl⟩
  rw [← hR] at hres ⊢
  obtain ⟨hr0, hr1⟩ : 0 ≤ R ∧ R ≤ 4611686018427387904 := hres
  unfold gtimes maxB at hR
  by_cases h0 : 0 < n
  · rw [Int.tdiv_eq_ediv_of_nonneg (by omega)] at hR
    have hnz : (n == 0) = false := beq_false_of (by omega)
    by_cases h1 : 4611686018427387904 / n < g
    · rw [if_pos ⟨h0, h1⟩] at hR
      have HR := Lib.hid hR
      clear hR
      go_enter Try.func87, Try.ntmps87
      go_wp2_with fail
      go_ret
      exact ⟨by rw [HR.out]; rfl, rfl⟩
    · rw [if_neg (fun h => h1 h.2)] at hR
      have hwm : wrap64 (g * n) = R := by rw [← hR]; unfold wrap64; omega
      have HR := Lib.hid hR
      clear hR
      go_enter Try.func87, Try.ntmps87
      go_wp2_with fail
      go_ret
      exact ⟨rfl, rfl⟩
  · obtain rfl : n = 0 := by omega
    have HR : R = 0 := by rw [hR]; simp
    subst HR
    clear hR
    go_enter Try.func87, Try.ntmps87
    go_wp2_with fail
    go_ret
    exact ⟨by simp, rfl⟩

/-- greater. -/
theorem greater_any (a b : Int) (w : World) : Calls Try.prog 62 #[.int .i64 a, .int .i64 b] w fun e w' => e = .returned (.int .i64 (max a b)) ∧ w = w' := by
  by_cases h : b < a
  · have e : max a b = a := by omega
    rw [e]
    clear e
    go_enter Try.func62, Try.ntmps62
    go_wp2
    go_ret
    exact ⟨rfl, rfl⟩
  · have e : max a b = b := by omega
    rw [e]
    clear e
    go_enter Try.func62, Try.ntmps62
    go_wp2
    go_ret
    exact ⟨rfl, rfl⟩

theorem one_any (n : Int) (w : World) : Calls Try.prog 96 #[.int .i64 n] w fun e w' => e = .returned (.int .i64 1) ∧ w = w' := by
  go_enter Try.func96, Try.ntmps96
  go_wp2
  go_ret
  exact ⟨rfl, rfl⟩
theorem each_any (n : Int) (w : World) (h0 : 1 ≤ n) (h1 : n ≤ 256) : Calls Try.prog 97 #[.int .i64 n] w fun e w' => e = .returned (.int .i64 (1 + n)) ∧ w = w' := by
  go_enter Try.func97, Try.ntmps97
  go_wp2_with fail
  all_goals go_ret
  all_goals exact ⟨by first | rfl | (exfalso; omega), rfl⟩

set_option maxRecDepth 100000 in
/-- costs, of a number in the table. -/
theorem costs_any (B b : Nat) (l : List Sign) (len cap : Nat) (n : Int) (c : Int) (s : Sign) (w : World) (hll : l.length = len) (_hlen : len ≤ 1000) (h : SignsAt w B b l) (hs : signOf l n = some s) (h0 : 1 ≤ c) (h1 : c ≤ 256) :
    Calls Try.prog 57 #[.slice (some ⟨b, 0, none⟩) len cap, .int .i64 n, .int .i64 c] w fun e w' => e = .returned (.int .i64 (costsF l n c)) ∧ w = w' := by
  have hcost : costsF l n c = signGas s c := by unfold costsF; rw [hs]
  rw [hcost]
  obtain ⟨hn0, hn1, hns, _⟩ := signOf_mem hs
  obtain ⟨m, rfl⟩ := Int.eq_ofNat_of_zero_le hn0
  rw [Int.toNat_natCast] at hn1 hns
  rw [hll] at hn1
  obtain ⟨g, _, _, c0, c1, c2, c3, _⟩ := (h.2.2 m s hns).all
  unfold Sign.fn at c3
  unfold signGas
  have hmI : (m : Int) < len := by omega
  clear hcost hs hns h c0 c1 c2
  cases hm : s.many with
  | true =>
    rw [hm] at c3
    simp only [if_true] at c3
    go_enter Try.func57, Try.ntmps57
    go_wp2_with fail
    refine (each_any c w h0 h1).mono ?_
    rintro e w1 ⟨rfl, rfl⟩
    go_wp2_with fail
    go_ret
    exact ⟨rfl, rfl⟩
  | false =>
    rw [hm] at c3
    simp only [Bool.false_eq_true, if_false] at c3
    go_enter Try.func57, Try.ntmps57
    go_wp2_with fail
    refine (one_any c w).mono ?_
    rintro e w1 ⟨rfl, rfl⟩
    go_wp2_with fail
    go_ret
    exact ⟨rfl, rfl⟩
end Go.Proofs.Ytggibiodeecljaa
