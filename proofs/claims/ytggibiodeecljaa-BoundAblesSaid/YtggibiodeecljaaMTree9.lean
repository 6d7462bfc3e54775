/- tableauref09: Behind, Kids. Package bound's gas: add, times, greater, costs, sides. The reference's plus, times, sides and Cost. -/
import Derived.Test.YtggibiodeecljaaTree
import Derived.Test.YtggibiodeecljaaMAble0
import Derived.Test.YtggibiodeecljaaMModel
import Derived.Test.YtggibiodeecljaaMStmt0
import Derived.Test.YtggibiodeecljaaMKinds
import Derived.Deep.RegionHeld3
import Derived.Deep.QuietTactic
import Derived.BigQuiet
namespace Go.Proofs.Ytggibiodeecljaa
open Go.RowKit
set_option linter.unusedVariables false
theorem behind9_out (A : Option Addr) (n c : Nat) (k : Int) (w : World) (h : k < 0 ∨ (0 ≤ k ∧ (n : Int) ≤ k)) (hn : n ≤ 9223372036854775807) :
  Calls Try.prog 51 #[.slice A n c, .int .i64 k] w fun e w' => e = .returned (.int .i64 (-1)) ∧ w = w' := by
 rcases h with h | ⟨h0, h⟩
 ·go_enter Try.func51, Try.ntmps51
  go_wp2
  go_ret
  exact ⟨rfl, rfl⟩
 ·have d1 : decide (k < 0) = false := decide_eq_false (by omega)
  go_enter Try.func51, Try.ntmps51
  go_wp2
  go_loop [1, 5] (fun a l => a = .int .i64 k ∧ l = .int .i64 1) (fun _ _ => 0)
  case atStart => exact ⟨rfl, rfl⟩
  case round =>
   obtain ⟨rfl, rfl⟩ := hrel
   go_wp2
   go_ret
   exact ⟨rfl, rfl⟩
set_option maxHeartbeats 400000 in
theorem behind9_in (b off cap : Nat) (ts : List Node) (k : Nat) (w : World) (hl : ts.length ≤ 100000) (hc : NodesAt w b off ts) (h1 : k < ts.length) :
  Calls Try.prog 51 #[.slice (some ⟨b, off, none⟩) ts.length cap, .int .i64 k] w fun e w' => e = .returned (.int .i64 (behind ts k)) ∧ w = w' := by
 obtain ⟨R, hR⟩ : ∃ R, R = behind ts k := ⟨_, rfl⟩
 rw [← hR]
 unfold behind at hR
 rw [if_pos h1] at hR
 have HR := Lh hR
 clear hR
 obtain ⟨len, hlen⟩ : ∃ len, ts.length = len := ⟨_, rfl⟩
 rw [hlen] at h1 hl HR ⊢
 have HL := Lh hlen
 clear hlen
 have d1 : decide ((k : Int) < 0) = false := by simp
 go_enter Try.func51, Try.ntmps51
 go_wp2
 go_loop [1, 5] (fun a l => ∃ (j : Nat) (L : Int), j ≤ len ∧ L ≤ j * 100000 + 1 ∧ 0 ≤ L ∧ Hid (R = beh len (ts.drop j) L j) ∧ a = .int .i64 j ∧ l = .int .i64 L) (fun a _ => len - (intOf a).toNat)
 case atStart => exact ⟨k, 1, by omega, by omega, by omega, HR, rfl, rfl⟩
 case round =>
  obtain ⟨j, L, hj, hL, hL0, H, rfl, rfl⟩ := hrel
  by_cases h : 0 < L
  ·by_cases hjl : j < len
   ·obtain ⟨x, hx⟩ : ∃ x, ts[j]? = some x := ⟨_, List.getElem?_eq_getElem (by rw [HL.out]; exact hjl)⟩
    have hcj := hc.kids hx
    have hs : beh len (ts.drop j) L j = if x.kids < 0 ∨ x.kids > len then -1 else beh len (ts.drop (j + 1)) (L + (x.kids - 1)) (j + 1) := by
     rw [drop_at hx, beh, if_neg (by omega)]
    have HS := Lh hs
    clear hs hx hc
    have dj : decide (len ≤ j) = false := decide_eq_false (by omega)
    by_cases h1 : x.kids < 0
    ·have dk : decide (x.kids < 0) = true := decide_eq_true h1
     go_wp2
     go_ret
     exact ⟨ret_i64 (by rw [H.out, HS.out, if_pos (.inl h1)]), rfl⟩
    ·have dk : decide (x.kids < 0) = false := decide_eq_false h1
     by_cases h2 : (len : Int) < x.kids
     ·have dl : decide ((len : Int) < x.kids) = true := decide_eq_true h2
      go_wp2
      go_ret
      exact ⟨ret_i64 (by rw [H.out, HS.out, if_pos (.inr h2)]), rfl⟩
     ·have dl : decide ((len : Int) < x.kids) = false := decide_eq_false h2
      go_wp2
      go_round
      case rel => exact ⟨j + 1, L + (x.kids - 1), by omega, by omega, by omega, by rw [if_neg (by omega)] at HS; rw [← HS.out]; exact H, by go_num, by go_num⟩
      case measure => simp [intOf]; omega
   ·have : j = len := by omega
    have hs : beh len (ts.drop j) L j = -1 := by
     rw [List.drop_of_length_le (by rw [HL.out]; omega), beh, if_neg (by omega)]
    have HS := Lh hs
    clear hs
    go_wp2
    go_ret
    exact ⟨ret_i64 (by rw [H.out, HS.out]), rfl⟩
  ·have hs : beh len (ts.drop j) L j = j := by
    cases ts.drop j <;> rw [beh, if_pos (by omega)]
   have HS := Lh hs
   clear hs
   go_wp2
   go_ret
   exact ⟨ret_i64 (by rw [H.out, HS.out]), rfl⟩
/-- Behind, of any place from 0 on. -/
theorem behind9_any (A : Option Addr) (ts : List Node) (c : Nat) (k : Nat) (w : World) (hl : ts.length ≤ 100000) (hT : TreeAt w A ts) :
  Calls Try.prog 51 #[.slice A ts.length c, .int .i64 k] w fun e w' => e = .returned (.int .i64 (behind ts k)) ∧ w = w' := by
 by_cases hk : k < ts.length
 ·rcases hT with h | ⟨tb, toff, rfl, htb, hN⟩
  ·subst h; simp at hk
  ·exact behind9_in tb toff c ts k w hl hN hk
 ·have e : behind ts k = -1 := by unfold behind; rw [if_neg hk]
  rw [e]
  exact behind9_out A ts.length c k w (.inr ⟨by omega, by omega⟩) (by omega)
set_option maxRecDepth 100000 in
set_option maxHeartbeats 2000000 in
theorem kids9_any (A : Option Addr) (ts : List Node) (c : Nat) (i : Nat) (w : World) (hl : ts.length ≤ 100000) (hT : TreeAt w A ts) (hi : i < ts.length) :
  Calls Try.prog 90 #[.slice A ts.length c, .int .i64 i] w fun e w' => ∃ v, e = .returned v ∧ w'.ownsRow w.heap.size 3 1 v (kidsOf ts i).length (intVals ((kidsOf ts i).map (fun j : Nat => (j : Int)))) ∧ Below w.heap.size w w' := by
 have hbd := fun (k : Nat) (wx : World) (hx : TreeAt wx A ts) => behind9_any A ts c k wx hl hx
 by_cases hneg : behind ts i < 0
 ·have hk : kidsOf ts i = [] := by unfold kidsOf; rw [if_pos hneg]
  rw [hk]
  have HB := Lh (hbd i w hT)
  have d1 : decide (behind ts i < 0) = true := decide_eq_true hneg
  clear hbd hT hk
  go_enter Try.func90, Try.ntmps90
  go_wp2_with fail
  refine HB.out.mono ?_
  rintro e w1 ⟨rfl, rfl⟩
  go_wp2_with fail
  go_ret
  exact ⟨_, rfl, World.ownsRow_nil _ _ _ _, Below.refl _ _⟩
 ·obtain ⟨x, hx⟩ : ∃ x, ts[i]? = some x := ⟨_, List.getElem?_eq_getElem hi⟩
  rcases hT with h | ⟨tb, toff, rfl, htb, hN⟩
  ·subst h; simp at hi
  have hck := hN.kids hx
  have hz : ∃ z, (sizes ts.length ts)[i]? = some (some z) := by
   rw [behind_eq] at hneg
   rcases hz : (sizes ts.length ts)[i]? with _ | _ | z
   ·rw [hz] at hneg; simp only at hneg; omega
   ·rw [hz] at hneg; simp only at hneg; omega
   ·exact ⟨z, rfl⟩
  obtain ⟨z, hz⟩ := hz
  obtain ⟨hk0, hk1, hadv⟩ := size_kids hx hz
  have hkids : kidsOf ts i = kidsFrom ts x.kids.toNat (i + 1) := by
   unfold kidsOf
   rw [if_neg hneg, List.getD_eq_getElem?_getD, hx]
   rfl
  rw [hkids]
  obtain ⟨K, hK⟩ := Int.eq_ofNat_of_zero_le hk0
  rw [hK] at hck hadv hk1 ⊢
  rw [Int.toNat_natCast] at hadv ⊢
  have hT2 : ∀ wx, Below w.heap.size w wx → TreeAt wx (some ⟨tb, toff, none⟩) ts := fun wx h => (show TreeAt w _ ts from .inr ⟨tb, toff, rfl, htb, hN⟩).below h
  have hB := hbd i w (.inr ⟨tb, toff, rfl, htb, hN⟩)
  obtain ⟨len, hlen⟩ : ∃ len, ts.length = len := ⟨_, rfl⟩
  rw [hlen] at hl hi hk1 hB hadv ⊢
  simp only [hlen] at hbd
  have HL := Lh hlen
  have HA := Lh hadv
  have HBD := Lh hbd
  have HT := Lh hT2
  have HB := Lh hB
  have d1 : decide (behind ts i < 0) = false := decide_eq_false hneg
  have hbi : 0 ≤ behind ts i := by omega
  clear hadv hlen hK hx hkids hz hbd hT2 hB hN hneg
  have hiI : (i : Int) < len := by omega
  go_enter Try.func90, Try.ntmps90
  go_wp2_with fail
  refine HB.out.mono ?_
  rintro e w1 ⟨rfl, rfl⟩
  go_wp2_with fail
  go_loopw [5, 6, 7] (fun v a k wr => ∃ (j : Nat) (V : Int), j ≤ K ∧ k = .int .i64 j ∧ a = .int .i64 V ∧ Hid (V = placeOf (adv (sizes len ts) j (i + 1))) ∧ wr.ownsRow w.heap.size 3 1 v j (intVals ((kidsFrom ts j (i + 1)).map (fun j : Nat => (j : Int)))) ∧ Below w.heap.size w wr)
   (fun _ _ k _ => K - (intOf k).toNat)
  case atStart => exact ⟨0, (i : Int) + 1, by omega, rfl, rfl, by simp [adv, placeOf, Hid], World.ownsRow_nil _ _ _ _, Below.refl _ _⟩
  case round =>
   obtain ⟨j, V, hjK, rfl, rfl, HV, hown, hbel⟩ := hrel
   obtain ⟨A5, c5, rfl⟩ := own_form hown
   have hcw : wr.cell? ⟨tb, toff + i * 7 + 6, none⟩ = some (.int .i64 K) := (hbel.cell (p := ⟨tb, toff + i * 7 + 6, none⟩) htb).trans hck
   have HO := Lh hown
   have HBE := Lh hbel
   have hzz := hbel.size
   clear hown hbel
   have hsome : ∃ q, adv (sizes len ts) j (i + 1) = some q := by
    cases h : adv (sizes len ts) j (i + 1) with
    | some q => exact ⟨q, rfl⟩
    | none =>
     have := adv_stop ts j K (i + 1) hjK (by rw [HL.out]; exact h)
     rw [HL.out, HA.out] at this
     cases this
   obtain ⟨q, hq⟩ := hsome
   have hVq : V = q := by rw [HV.out, hq]; rfl
   subst hVq
   have hql := adv_le (len := ts.length) (l := ts) j (i + 1) q (by rw [HL.out]; omega) (by rw [HL.out]; exact hq)
   rw [HL.out] at hql
   by_cases hlt : j < K
   ·have hqlt : q < len := by
     have h1 := adv_next ts j (i + 1) q (by rw [HL.out]; exact hq)
     by_cases h2 : q < len
     ·exact h2
     ·rw [HL.out, if_neg h2] at h1
      cases h3 : adv (sizes len ts) (j + 1) (i + 1) with
      | some z => rw [h3] at h1; simp only [placeOf] at h1; omega
      | none =>
       have := adv_stop ts (j + 1) K (i + 1) (by omega) (by rw [HL.out]; exact h3)
       rw [HL.out, HA.out] at this
       cases this
    have hnext := adv_next ts j (i + 1) q (by rw [HL.out]; exact hq)
    rw [HL.out, if_pos hqlt] at hnext
    have hstep := kidsFrom_step ts j (i + 1) q (by rw [HL.out]; exact hq)
    have HN := Lh hnext
    have HS := Lh hstep
    clear hq hnext hstep
    obtain ⟨hq1, hq2⟩ := hql
    go_wp2_with (at_builtin; go_loud (refine wpList_append1 int_el rfl _ _ rfl w.heap.size wr [.int .i64 q] rfl _ _ _ rfl HO.out rfl rfl (by simp [Value.oneCell']) (by unfold maxLen; omega) (by omega) hzz ?_; intro v2 w2 hown2 hg2; obtain ⟨A6, c6, rfl⟩ := own_form hown2; have QB := Lh (Below.of_own HBE.out HO.out hg2 (Nat.le_refl _) hzz); have QO := Lh hown2; clear hown2 hg2))
    refine (HBD.out q _ (HT.out _ QB.out)).mono ?_
    rintro e w3 ⟨rfl, rfl⟩
    go_wp2_with fail
    go_roundw
    case rel =>
     refine ⟨j + 1, behind ts q, by omega, by go_num, rfl, HN.out.symm, ?_, QB.out⟩
     have h := QO.out
     rw [HS.out, List.map_append]
     have e : intVals ((kidsFrom ts j (i + 1)).map (fun j : Nat => (j : Int)) ++ List.map (fun j : Nat => (j : Int)) [q]) = intVals ((kidsFrom ts j (i + 1)).map (fun j : Nat => (j : Int))) ++ [.int .i64 (q : Int)] := by simp [intVals]
     rw [e]
     exact h
    case measure => (simp [intOf]; try omega)
   ·have hjK2 : j = K := by omega
    subst hjK2
    clear hq
    go_wp2_with fail
    go_ret
    exact ⟨_, rfl, by rw [kidsFrom_length]; exact HO.out, HBE.out⟩
end Go.Proofs.Ytggibiodeecljaa
namespace Go.Proofs.Ytggibiodeecljaa
open Go.RowKit
theorem gb_trans {w w1 w2 : World} {x : Nat} {row : Option Nat} (h : w.grownBy w1 (some x)) (k : w1.grownBy w2 row) (hr : ∀ g, row = some g → g = x ∨ w.heap.size ≤ g) : w.grownBy w2 (some x) := by
 refine ⟨k.os.trans h.os, k.tape.trans h.tape, k.output.trans h.output, Nat.le_trans h.size k.size, fun i hi hne => ?_⟩
 have h1 := h.block i hi hne
 rw [k.block i (Nat.lt_of_lt_of_le hi h.size) ?_, h1]
 intro e
 rcases hr i e.symm with rfl | hg
 ·exact hne rfl
 ·omega
theorem gb_refl (w : World) (row : Option Nat) : w.grownBy w row := ⟨rfl, rfl, rfl, Nat.le_refl _, fun _ _ _ => rfl⟩
theorem gb_below {w w' : World} (h : Below w.heap.size w w') (row : Option Nat) : w.grownBy w' row := ⟨h.os, h.tape, h.output, h.size, fun i hi _ => h.block i hi⟩
theorem gb_alloc (w : World) (o : Obj) (row : Option Nat) : w.grownBy (w.alloc o) row := gb_below ((Below.refl _ _).alloc (Nat.le_refl _) o) row
theorem gb_drew {w w' : World} {row : Option Nat} (h : w.grownBy w' row) : w.grownBy w'.drew row := ⟨h.os, h.tape, h.output, h.size, h.block⟩
theorem gb_blk {w w' : World} {row : Option Nat} {g : Nat} {t : TypeId} {cs : Array Value} (h : w.grownBy w' row) (hb : Blk w g t cs) (hne : some g ≠ row) : Blk w' g t cs := hb.grown h hne
theorem gb_nodes {w w' : World} {x b off : Nat} {ts : List Node} (h : w.grownBy w' (some x)) (hn : NodesAt w b off ts) (hb : b < w.heap.size) (hne : b ≠ x) : NodesAt w' b off ts := by
 intro i y hy j v hv
 have := hn i y hy j v hv
 have hbl := h.block b hb (fun e => hne (by injection e))
 rw [← this]
 unfold World.cell?
 rw [hbl]
def gvals (l : List Int) : List Value := l.map (Value.int .i64)
theorem foldl_take_succ (l : List Int) (a : Int) (k : Nat) (x : Int) (h : l[k]? = some x) : (l.take (k + 1)).foldl gadd a = gadd ((l.take k).foldl gadd a) x := by
 rw [List.take_add_one, h, List.foldl_append]
 rfl
set_option maxRecDepth 100000 in
set_option maxHeartbeats 800000 in
/-- gas.add. -/
theorem add_any (gb lb off ln cl : Nat) (a : Int) (l : List Int) (w : World) (hln : l.length = ln) (hl : ln ≤ 100000) (hg : Blk w gb 86 #[.int .i64 a]) (hc : CellsAt w lb off (gvals l)) (hne : lb ≠ gb) (hlt : 0 < ln → lb < w.heap.size) (ha : IsGas a) (hgs : ∀ x ∈ l, IsGas x) :
  Calls Try.prog 46 #[.pointer (some ⟨gb, 0, none⟩), .slice (some ⟨lb, off, none⟩) ln cl] w fun e w' => e = .returned (.tuple #[]) ∧ Blk w' gb 86 #[.int .i64 (l.foldl gadd a)] ∧ w.grownBy w' (some gb) := by
 obtain ⟨R, hR⟩ : ∃ R, R = l.foldl gadd a := ⟨_, rfl⟩
 rw [← hR]
 have hsz := hg.lt
 have HR := Lh hR
 have HLN := Lh hln
 have HG := Lh hg
 have HC := Lh hc
 have HA := Lh ha
 have HGS := Lh hgs
 clear hR hln hg hc ha hgs
 go_enter Try.func46, Try.ntmps46
 go_wp2_with fail
 go_loopw [5, 8] (fun _ iv wr => ∃ (k : Nat) (V : Int), k ≤ ln ∧ iv = .int .i64 k ∧ 0 ≤ V ∧ V ≤ 4611686018427387904 ∧ Hid (V = (l.take k).foldl gadd a) ∧ Blk wr gb 86 #[.int .i64 V] ∧ w.grownBy wr (some gb))
  (fun _ iv _ => ln - (intOf iv).toNat)
 case atStart => exact ⟨0, a, by omega, rfl, HA.out.1, HA.out.2, rfl, HG.out, gb_refl _ _⟩
 case round =>
  obtain ⟨k, V, hk, rfl, hV0, hV1, HV, hblk, hgr⟩ := hrel
  by_cases hlt2 : k < ln
  ·obtain ⟨x, hx⟩ : ∃ x, l[k]? = some x := ⟨_, List.getElem?_eq_getElem (by rw [HLN.out]; exact hlt2)⟩
   have hxg := HGS.out x (List.mem_of_getElem? hx)
   obtain ⟨hx0, hx1⟩ : 0 ≤ x ∧ x ≤ 4611686018427387904 := hxg
   have hcell : wr.cell? ⟨lb, off + k, none⟩ = some (.int .i64 x) := by
    have h1 := HC.out k (.int .i64 x) (by simp [gvals, hx])
    have hbl := hgr.block lb (hlt (by omega)) (fun e => hne (by injection e))
    rw [← h1]
    unfold World.cell?
    rw [hbl]
   have c0 := hblk.cell 0
   have z0 := hblk.frozen 0
   have hnx := foldl_take_succ l a k x hx
   rw [← HV.out] at hnx
   have HNX := Lh hnx
   have HB := Lh hblk
   have HGR := Lh hgr
   clear hnx hx hblk hgr
   by_cases hbig : 4611686018427387904 - V < x
   ·go_wp2_with fail
    go_roundw
    case rel =>
     refine ⟨k + 1, _, by omega, by go_num, by omega, by omega, ?_, HB.out.set_ 0 _, gb_trans HGR.out (grownBy_set _ rfl _) (fun g e => .inl (by injection e with e; exact e.symm))⟩
     show _ = _
     rw [HNX.out]
     unfold gadd maxB
     rw [if_pos hbig]
    case measure => (simp [intOf]; try omega)
   ·go_wp2_with fail
    go_roundw
    case rel =>
     refine ⟨k + 1, V + x, by omega, by go_num, by omega, by omega, ?_, HB.out.set_ 0 _, gb_trans HGR.out (grownBy_set _ rfl _) (fun g e => .inl (by injection e with e; exact e.symm))⟩
     show _ = _
     rw [HNX.out]
     unfold gadd maxB
     rw [if_neg hbig]
    case measure => (simp [intOf]; try omega)
  ·have hkn : k = ln := by omega
   have hfin : R = V := by rw [HR.out, HV.out, List.take_of_length_le (by rw [HLN.out]; omega)]
   have HFin := Lh hfin
   clear hfin
   go_wp2_with fail
   go_end0
   exact ⟨rfl, by rw [HFin.out]; exact hblk, hgr⟩
set_option maxRecDepth 100000 in
set_option maxHeartbeats 800000 in
/-- gas.times. -/
theorem times_any (g n : Int) (w : World) (hg : IsGas g) (hn0 : 0 ≤ n) (hn1 : n ≤ 1000) :
  Calls Try.prog 87 #[.int .i64 g, .int .i64 n] w fun e w' => e = .returned (.int .i64 (gtimes g n)) ∧ w = w' := by
 obtain ⟨hg0, hg1⟩ : 0 ≤ g ∧ g ≤ 4611686018427387904 := hg
 have hres := (gtimes_gas hg0 hn0)
 obtain ⟨R, hR⟩ : ∃ R, R = gtimes g n := ⟨_, rfl⟩
 rw [← hR] at hres ⊢
 obtain ⟨hr0, hr1⟩ : 0 ≤ R ∧ R ≤ 4611686018427387904 := hres
 unfold gtimes maxB at hR
 by_cases h0 : 0 < n
 ·rw [Int.tdiv_eq_ediv_of_nonneg (by omega)] at hR
  have hnz : (n == 0) = false := beq_false_of (by omega)
  by_cases h1 : 4611686018427387904 / n < g
  ·rw [if_pos ⟨h0, h1⟩] at hR
   have HR := Lh hR
   clear hR
   go_enter Try.func87, Try.ntmps87
   go_wp2_with fail
   go_ret
   exact ⟨by rw [HR.out]; rfl, rfl⟩
  ·rw [if_neg (fun h => h1 h.2)] at hR
   have hwm : wrap64 (g * n) = R := by rw [← hR]; unfold wrap64; omega
   have HR := Lh hR
   clear hR
   go_enter Try.func87, Try.ntmps87
   go_wp2_with fail
   go_ret
   exact ⟨rfl, rfl⟩
 ·obtain rfl : n = 0 := by omega
  have HR : R = 0 := by rw [hR]; simp
  subst HR
  clear hR
  go_enter Try.func87, Try.ntmps87
  go_wp2_with fail
  go_ret
  exact ⟨by simp, rfl⟩
/-- greater. -/
theorem greater_any (a b : Int) (w : World) : Calls Try.prog 62 #[.int .i64 a, .int .i64 b] w fun e w' => e = .returned (.int .i64 (max a b)) ∧ w = w' := by
 by_cases h : b < a
 ·have e : max a b = a := by omega
  rw [e]
  clear e
  go_enter Try.func62, Try.ntmps62
  go_wp2
  go_ret
  exact ⟨rfl, rfl⟩
 ·have e : max a b = b := by omega
  rw [e]
  clear e
  go_enter Try.func62, Try.ntmps62
  go_wp2
  go_ret
  exact ⟨rfl, rfl⟩
theorem one_any (n : Int) (w : World) : Calls Try.prog 96 #[.int .i64 n] w fun e w' => e = .returned (.int .i64 1) ∧ w = w' := by
 go_enter Try.func96, Try.ntmps96
 go_wp2
 go_ret
 exact ⟨rfl, rfl⟩
theorem each_any (n : Int) (w : World) (h0 : 1 ≤ n) (h1 : n ≤ 256) : Calls Try.prog 97 #[.int .i64 n] w fun e w' => e = .returned (.int .i64 (1 + n)) ∧ w = w' := by
 go_enter Try.func97, Try.ntmps97
 go_wp2_with fail
 all_goals go_ret
 all_goals exact ⟨by first | rfl | (exfalso; omega), rfl⟩
set_option maxRecDepth 100000 in
/-- costs, of a number in the table. -/
theorem costs_any (B b : Nat) (l : List Sign) (len cap : Nat) (n : Int) (c : Int) (s : Sign) (w : World) (hll : l.length = len) (_hlen : len ≤ 1000) (h : SignsAt w B b l) (hs : signOf l n = some s) (h0 : 1 ≤ c) (h1 : c ≤ 256) :
  Calls Try.prog 57 #[.slice (some ⟨b, 0, none⟩) len cap, .int .i64 n, .int .i64 c] w fun e w' => e = .returned (.int .i64 (costsF l n c)) ∧ w = w' := by
 have hcost : costsF l n c = signGas s c := by unfold costsF; rw [hs]
 rw [hcost]
 obtain ⟨hn0, hn1, hns, _⟩ := signOf_mem hs
 obtain ⟨m, rfl⟩ := Int.eq_ofNat_of_zero_le hn0
 rw [Int.toNat_natCast] at hn1 hns
 rw [hll] at hn1
 obtain ⟨g, _, _, c0, c1, c2, c3, _⟩ := (h.2.2 m s hns).all
 unfold Sign.fn at c3
 unfold signGas
 have hmI : (m : Int) < len := by omega
 clear hcost hs hns h c0 c1 c2
 cases hm : s.many with
 | true =>
  rw [hm] at c3
  simp only [if_true] at c3
  go_enter Try.func57, Try.ntmps57
  go_wp2_with fail
  refine (each_any c w h0 h1).mono ?_
  rintro e w1 ⟨rfl, rfl⟩
  go_wp2_with fail
  go_ret
  exact ⟨rfl, rfl⟩
 | false =>
  rw [hm] at c3
  simp only [Bool.false_eq_true, if_false] at c3
  go_enter Try.func57, Try.ntmps57
  go_wp2_with fail
  refine (one_any c w).mono ?_
  rintro e w1 ⟨rfl, rfl⟩
  go_wp2_with fail
  go_ret
  exact ⟨rfl, rfl⟩
end Go.Proofs.Ytggibiodeecljaa
namespace Go.Proofs.Ytggibiodeecljaa
open Go.RowKit
set_option linter.unusedVariables false
theorem quiet_eq {P : Program} {f : FuncId} {args : Array Value} {w : World} {n : Nat} {v : Value} (h : Calls P f args (w.drewN n) fun e w' => e = .returned v ∧ w.drewN n = w') : Calls P f args (w.drewN n) fun e w'' => e = .returned v ∧ ∃ m, w'' = w.drewN m :=
 h.mono fun _ _ ⟨he, hm⟩ => ⟨he, n, hm.symm⟩
set_option maxRecDepth 100000 in
set_option maxHeartbeats 1000000 in
theorem costN_any (which number c : Int) (w : World) (hw : which = 0 ∨ which = 1 ∨ which = 2) (h0 : 1 ≤ c) (h1 : c ≤ 256) :
  Calls Try.prog 93 #[.int .i64 which, .int .i64 number, .int .i64 c] w fun e w' => e = .returned (.int .i64 (costN which number c)) ∧ w = w' := by
 obtain ⟨R, hR⟩ : ∃ R, R = costN which number c := ⟨_, rfl⟩
 rw [← hR]
 unfold costN at hR
 have q0 : decide (c ≤ 0) = false := decide_eq_false (by omega)
 have q1 : decide (4611686018427387904 ≤ c) = false := decide_eq_false (by omega)
 rcases hw with rfl | rfl | rfl
 ·by_cases hn : number = 10
  ·rw [if_pos (by omega)] at hR
   have s1 : (number == 10) = true := beq_true_of hn
   have HR := Lh hR
   clear hR hn
   go_enter Try.func93, Try.ntmps93
   go_wp2_with fail
   go_ret
   exact ⟨ret_i64 HR.out.symm, rfl⟩
  ·rw [if_neg (by omega)] at hR
   have s1 : (number == 10) = false := beq_false_of hn
   have HR := Lh hR
   clear hR hn
   go_enter Try.func93, Try.ntmps93
   go_wp2_with fail
   go_ret
   exact ⟨ret_i64 HR.out.symm, rfl⟩
 ·by_cases hn : number = 4
  ·rw [if_pos (by omega)] at hR
   have s1 : (number == 4) = true := beq_true_of hn
   have HR := Lh hR
   clear hR hn
   go_enter Try.func93, Try.ntmps93
   go_wp2_with fail
   go_ret
   exact ⟨ret_i64 HR.out.symm, rfl⟩
  ·rw [if_neg (by omega)] at hR
   have s1 : (number == 4) = false := beq_false_of hn
   have HR := Lh hR
   clear hR hn
   go_enter Try.func93, Try.ntmps93
   go_wp2_with fail
   go_ret
   exact ⟨ret_i64 HR.out.symm, rfl⟩
 ·by_cases hn : number = 8
  ·rw [if_pos (by omega)] at hR
   have s1 : (number == 8) = true := beq_true_of hn
   have HR := Lh hR
   clear hR hn
   go_enter Try.func93, Try.ntmps93
   go_wp2_with fail
   go_ret
   exact ⟨ret_i64 HR.out.symm, rfl⟩
  ·rw [if_neg (by omega)] at hR
   have s1 : (number == 8) = false := beq_false_of hn
   have HR := Lh hR
   clear hR hn
   go_enter Try.func93, Try.ntmps93
   go_wp2_with fail
   go_ret
   exact ⟨ret_i64 HR.out.symm, rfl⟩
set_option maxRecDepth 100000 in
theorem plusN_any (a b : Int) (w : World) (ha : IsGas a) (hb : IsGas b) :
  Calls Try.prog 49 #[.int .i64 a, .int .i64 b] w fun e w' => e = .returned (.int .i64 (gadd a b)) ∧ w = w' := by
 have M : maxB = 4611686018427387904 := rfl
 obtain ⟨a0, a1⟩ := ha
 obtain ⟨b0, b1⟩ := hb
 rw [M] at a1 b1
 by_cases h : 4611686018427387904 - b < a
 ·have hR : gadd a b = 4611686018427387904 := by unfold gadd; rw [M]; split <;> omega
  rw [hR]
  go_enter Try.func49, Try.ntmps49
  go_wp2
  go_ret
  exact ⟨rfl, rfl⟩
 ·have hR : gadd a b = a + b := by unfold gadd; rw [M]; split <;> omega
  rw [hR]
  go_enter Try.func49, Try.ntmps49
  go_wp2
  go_ret
  exact ⟨rfl, rfl⟩
theorem one_gasN : IsGas 1 := by unfold IsGas maxB; omega
theorem num_gas {k : Int} (h : 0 ≤ k) (h2 : k ≤ 1000) : IsGas k := by unfold IsGas maxB; omega
set_option maxRecDepth 100000 in
set_option maxHeartbeats 1000000 in
theorem times18_any (a b : Int) (w : World) (h0 : 0 ≤ a) (h1 : a ≤ 1000) (hb : IsGas b) :
  Calls Try.prog 92 #[.int .i64 a, .int .i64 b] w fun e w' => e = .returned (.int .i64 (gtimes b a)) ∧ w = w' := by
 obtain ⟨hg0, hg1⟩ : 0 ≤ b ∧ b ≤ 4611686018427387904 := hb
 have hres := (gtimes_gas hg0 h0)
 obtain ⟨R, hR⟩ : ∃ R, R = gtimes b a := ⟨_, rfl⟩
 rw [← hR] at hres ⊢
 obtain ⟨hr0, hr1⟩ : 0 ≤ R ∧ R ≤ 4611686018427387904 := hres
 unfold gtimes maxB at hR
 by_cases hp : 0 < a
 ·rw [Int.tdiv_eq_ediv_of_nonneg (by omega)] at hR
  have hnz : (a == 0) = false := beq_false_of (by omega)
  by_cases hq : 4611686018427387904 / a < b
  ·rw [if_pos ⟨hp, hq⟩] at hR
   have HR := Lh hR
   clear hR
   go_enter Try.func92, Try.ntmps92
   go_wp2_with fail
   go_ret
   exact ⟨by rw [HR.out]; rfl, rfl⟩
  ·rw [if_neg (fun h => hq h.2)] at hR
   have hwm : wrap64 (a * b) = R := by rw [Int.mul_comm, ← hR]; unfold wrap64; omega
   have HR := Lh hR
   clear hR
   go_enter Try.func92, Try.ntmps92
   go_wp2_with fail
   go_ret
   exact ⟨rfl, rfl⟩
 ·obtain rfl : a = 0 := by omega
  have HR : R = 0 := by rw [hR]; simp
  subst HR
  clear hR
  go_enter Try.func92, Try.ntmps92
  go_wp2_with fail
  go_ret
  exact ⟨by simp, rfl⟩
theorem info_int64 : (Try.prog.info? 2).map (fun i => (i.zero, i.size, i.bytes)) = some (some (.int .i64 0), 1, 8) := by kernel_rfl
theorem i64_el : ElT Try.prog 26 2 1 8 := ⟨Try.underlying26, by decide, by
 obtain ⟨i0, hi, hz0, hz1, hz2⟩ := info_parts info_int64
 exact ⟨i0, _, hi, hz0, hz1, hz2, rfl⟩⟩
theorem own_gas {w : World} {B n c : Nat} {A : Option Addr} {l : List Int} (h : w.ownsRow B 2 1 (.slice A n c) n (gvals l)) {k : Nat} {y : Int} (hy : l[k]? = some y) : ∃ g, A = some ⟨g, 0, none⟩ ∧ w.cell? ⟨g, k, none⟩ = some (.int .i64 y) := by
 have hlen := h.1
 simp only [gvals, List.length_map] at hlen
 have hk := (List.getElem?_eq_some_iff.1 hy).1
 rcases h.2 with ⟨h1, h2⟩ | ⟨g, cap, cur, h1, _⟩
 ·omega
 ·injection h1 with h1 h3 h4
  subst h1
  refine ⟨g, rfl, ?_⟩
  have := h.cellAt k (by omega)
  rw [this]
  simp [gvals, hy]
set_option maxRecDepth 100000 in
set_option maxHeartbeats 1000000 in
theorem sides18_any (A : Option Addr) (B K c9 : Nat) (l : List Int) (b : Int) (w : World) (hK : l.length = K) (hK2 : K = 2 ∨ K = 3) (h : w.ownsRow B 2 1 (.slice A K c9) K (gvals l)) (hb : IsGas b) (hl : ∀ y ∈ l, IsGas y) :
  Calls Try.prog 91 #[.slice A K c9, .int .i64 b] w fun e w' => e = .returned (.int .i64 (gsides l b)) ∧ ∃ m, w' = w.drewN m := by
 obtain ⟨R, hR⟩ : ∃ R, R = gsides l b := ⟨_, rfl⟩
 rw [← hR]
 unfold gsides at hR
 rw [hK] at hR
 rcases hK2 with rfl | rfl
 ·rw [if_pos (by omega)] at hR
  have HR := Lh hR
  clear hR h hK
  go_enter Try.func91, Try.ntmps91
  go_wp2_with fail
  go_ret
  exact ⟨ret_i64 HR.out.symm, 0, rfl⟩
 ·rw [if_neg (by omega)] at hR
  obtain ⟨y, hy⟩ : ∃ y, l[2]? = some y := ⟨_, List.getElem?_eq_getElem (by omega)⟩
  obtain ⟨g, rfl, hc⟩ := own_gas h hy
  rw [List.getD_eq_getElem?_getD, hy] at hR
  have HR := Lh hR
  have hp := fun wx => plusN_any b 1 wx hb one_gasN
  have HP := Lh hp
  clear hR h hK hp hl hy
  go_enter Try.func91, Try.ntmps91
  go_wp2_with fail
  go_quiet ((go_at_call 49; exact quiet_eq (HP.out _)))
  go_wp2_with fail
  all_goals go_ret
  all_goals exact ⟨ret_i64 (by rw [HR.out]; show _ = max _ y; omega), _, rfl⟩
end Go.Proofs.Ytggibiodeecljaa
