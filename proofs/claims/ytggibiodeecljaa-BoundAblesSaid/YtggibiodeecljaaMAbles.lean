/- tableauref00: SizeNodes. tableauref00: SizeAbility, Long. Law BoundAbles: its walk. The law BoundAbles holds: at every input it returns true and leaves its arguments as they were. No condition. -/
import Derived.Test.YtggibiodeecljaaMLives
import Derived.Deep.RegionHeld3
import Derived.Test.YtggibiodeecljaaMBound18
import Derived.Test.YtggibiodeecljaaMWide
import Derived.Test.YtggibiodeecljaaMAblAll
import Derived.Test.YtggibiodeecljaaRows
import Derived.WalkKit
import Derived.ProofKit
import Derived.OpenShut
import Derived.ShutString
import Derived.ChangeOld
import Derived.Below
namespace Go.Proofs.Ytggibiodeecljaa
open Go.RowKit
set_option linter.unusedVariables false
/-- As many nodes, and their texts; it stops where that is past the bound. -/
def sizeL : List Node → Int → Int
 | [], s => s
 | x :: r, s => if s ≤ 16777216 then sizeL r (s + (x.text.size : Int)) else s
theorem sizeL_ge : ∀ ts s, s ≤ sizeL ts s
 | [], s => by unfold sizeL; omega
 | x :: r, s => by
  unfold sizeL
  split
  ·have := sizeL_ge r (s + (x.text.size : Int)); omega
  ·omega
theorem sizeL_text : ∀ ts s, 0 ≤ s → sizeL ts s ≤ 16777216 → ∀ x ∈ ts, (x.text.size : Int) ≤ 16777216
 | [], s, _, _, x, h => by simp at h
 | y :: r, s, h0, hs, x, h => by
  unfold sizeL at hs
  split at hs
  ·rcases List.mem_cons.1 h with rfl | h
   ·have := sizeL_ge r (s + (x.text.size : Int)); omega
   ·exact sizeL_text r (s + (y.text.size : Int)) (by omega) hs x h
  ·omega
theorem sizeL_le : ∀ ts s, (∀ x ∈ ts, x.text.size ≤ 4611686018427387904) → s ≤ 281474976710656 → sizeL ts s ≤ 4611967493404098560
 | [], s, _, h => by unfold sizeL; omega
 | y :: r, s, ht, h => by
  unfold sizeL
  split
  ·have hy := ht y (List.mem_cons_self ..)
   cases r with
   | nil => unfold sizeL; omega
   | cons z r =>
    by_cases hs : s + (y.text.size : Int) ≤ 16777216
    ·exact sizeL_le (z :: r) _ (fun x hx => ht x (List.mem_cons_of_mem _ hx)) (by omega)
    ·unfold sizeL; rw [if_neg hs]; omega
  ·omega
set_option maxRecDepth 100000 in
set_option maxHeartbeats 800000 in
theorem sizeNodes_any (A : Option Addr) (ts : List Node) (c : Nat) (w : World) (hl : ts.length ≤ 281474976710656) (hT : TreeAt w A ts) (htx : ∀ x ∈ ts, x.text.size ≤ 4611686018427387904) :
  Calls Try.prog 43 #[.slice A ts.length c] w fun e w' => e = .returned (.int .i64 (sizeL ts ts.length)) ∧ w = w' := by
 obtain ⟨len, hlen⟩ : ∃ len, ts.length = len := ⟨_, rfl⟩
 obtain ⟨R, hR⟩ : ∃ R, R = sizeL ts ts.length := ⟨_, rfl⟩
 rw [← hR]
 rw [hlen] at hR hl ⊢
 have hcell : ∀ i x, ts[i]? = some x → ∃ b off, A = some ⟨b, off, none⟩ ∧ w.cell? ⟨b, off + i * 7 + 4, none⟩ = some (.string x.text) := by
  intro i x hx
  rcases hT with rfl | ⟨tb, toff, h1, h2, h3⟩
  ·simp at hx
  ·exact ⟨tb, toff, h1, h3.text hx⟩
 have HR := Lh hR
 have HL := Lh hlen
 have HC := Lh hcell
 have HTX := Lh htx
 clear hR hlen hcell hT htx
 by_cases hA : A = none
 ·subst hA
  have h0 : len = 0 := by
   rcases Nat.eq_zero_or_pos len with h | h
   ·exact h
   ·obtain ⟨b, off, e, _⟩ := HC.out 0 _ (List.getElem?_eq_getElem (by rw [HL.out]; exact h))
    cases e
  subst h0
  have hR0 : R = 0 := by
   have : ts = [] := List.length_eq_zero_iff.1 HL.out
   rw [HR.out, this]; rfl
  have HR0 := Lh hR0
  clear hR0
  go_enter Try.func43, Try.ntmps43
  go_wp2
  go_loop [3, 4] (fun s i => s = .int .i64 0 ∧ i = .int .i64 0) (fun _ _ => 0)
  case atStart => exact ⟨rfl, rfl⟩
  case round =>
   obtain ⟨rfl, rfl⟩ := hrel
   go_wp2
   go_ret
   exact ⟨ret_i64 HR0.out.symm, rfl⟩
 ·obtain ⟨a, rfl⟩ := Option.ne_none_iff_exists'.1 hA
  obtain ⟨b, off, e, he⟩ : ∃ b off e, a = ⟨b, off, e⟩ := ⟨_, _, _, rfl⟩
  by_cases hlen0 : len = 0
  ·subst hlen0
   have hR0 : R = 0 := by
    have : ts = [] := List.length_eq_zero_iff.1 HL.out
    rw [HR.out, this]; rfl
   have HR0 := Lh hR0
   clear hR0
   go_enter Try.func43, Try.ntmps43
   go_wp2
   go_loop [3, 4] (fun s i => s = .int .i64 0 ∧ i = .int .i64 0) (fun _ _ => 0)
   case atStart => exact ⟨rfl, rfl⟩
   case round =>
    obtain ⟨rfl, rfl⟩ := hrel
    go_wp2
    go_ret
    exact ⟨ret_i64 HR0.out.symm, rfl⟩
  ·obtain ⟨b2, off2, e2, hdrop⟩ := HC.out 0 _ (List.getElem?_eq_getElem (by rw [HL.out]; omega))
   clear hdrop
   injection e2 with e2
   subst e2
   clear he hA hlen0
   clear b off e
   have hcell : ∀ i x, ts[i]? = some x → w.cell? ⟨b2, off2 + i * 7 + 4, none⟩ = some (.string x.text) := by
    intro i x hx
    obtain ⟨b, off, e, h⟩ := HC.out i x hx
    injection e with e
    injection e with e1 e2
    subst e1 e2
    exact h
   clear HC
   have HC := Lh hcell
   clear hcell
   go_enter Try.func43, Try.ntmps43
   go_wp2
   go_loop [3, 4] (fun s i => ∃ (j : Nat) (S : Int), j ≤ len ∧ 0 ≤ S ∧ S ≤ 4611967493404098560 ∧ Hid (R = sizeL (ts.drop j) S) ∧ s = .int .i64 S ∧ i = .int .i64 j) (fun _ i => len - (intOf i).toNat)
   case atStart => exact ⟨0, len, by omega, by omega, by omega, HR, rfl, rfl⟩
   case round =>
    obtain ⟨j, S, hj, hS0, hS1, H, rfl, rfl⟩ := hrel
    by_cases hjl : j < len
    ·obtain ⟨x, hx⟩ : ∃ x, ts[j]? = some x := ⟨_, List.getElem?_eq_getElem (by rw [HL.out]; exact hjl)⟩
     have hs : R = if S ≤ 16777216 then sizeL (ts.drop (j + 1)) (S + (x.text.size : Int)) else S := by rw [H.out, drop_at hx, sizeL]
     have hsz := HTX.out x (List.mem_of_getElem? hx)
     have hcj := HC.out j x hx
     have HS := Lh hs
     clear hs hx
     by_cases h1 : S ≤ 16777216
     ·go_wp2
      go_round
      case rel => exact ⟨j + 1, S + (x.text.size : Int), by omega, by omega, by omega, by rw [if_pos h1] at HS; exact HS, by go_num, by go_num⟩
      case measure => simp [intOf]; omega
     ·go_wp2
      go_ret
      exact ⟨ret_i64 (by rw [HS.out, if_neg (by omega)]), rfl⟩
    ·have hs : R = S := by
      rw [H.out, List.drop_of_length_le (by rw [HL.out]; omega), sizeL]
     have HS := Lh hs
     clear hs
     go_wp2
     go_ret
     exact ⟨ret_i64 HS.out.symm, rfl⟩
end Go.Proofs.Ytggibiodeecljaa
namespace Go.Proofs.Ytggibiodeecljaa
open Go.RowKit
set_option linter.unusedVariables false
theorem long_any (n : Int) (w : World) : Calls Try.prog 10 #[.int .i64 n] w fun e w' => e = .returned (.bool (decide (16777216 < n))) ∧ w = w' := by
 go_enter Try.func10, Try.ntmps10
 go_wp2
 go_ret
 all_goals exact ⟨by simp, rfl⟩
set_option maxRecDepth 100000 in
set_option maxHeartbeats 1000000 in
theorem sizeAble_any (on : Int) (SA TA : Option Addr) (slots : List Int) (sc tc : Nat) (when_ : Bool) (ts : List Node) (w : World) (hl : slots.length ≤ 281474976710656) (ht : ts.length ≤ 281474976710656) (hT : TreeAt w TA ts) (htx : ∀ x ∈ ts, x.text.size ≤ 4611686018427387904) :
  Calls Try.prog 17 #[.agg #[.int .i64 on, .slice SA slots.length sc, .bool when_, .slice TA ts.length tc]] w fun e w' => e = .returned (.int .i64 ((slots.length : Int) + sizeL ts ts.length)) ∧ Below w.heap.size w w' := by
 obtain ⟨W, hW⟩ : ∃ W, W = w.alloc (.cells #[.int .i64 on, .slice SA slots.length sc, .bool when_, .slice TA ts.length tc] 25) := ⟨_, rfl⟩
 have hBW : Below w.heap.size w W := by rw [hW]; exact (Below.refl _ _).alloc (Nat.le_refl _) _
 have hb0 : Blk W w.heap.size 25 #[.int .i64 on, .slice SA slots.length sc, .bool when_, .slice TA ts.length tc] := by rw [hW]; exact Blk.new _ _ _
 obtain ⟨R, hR⟩ : ∃ R, R = sizeL ts ts.length := ⟨_, rfl⟩
 have hR0 : 0 ≤ R := by rw [hR]; have := sizeL_ge ts ts.length; omega
 have hR1 : R ≤ 4611967493404098560 := by rw [hR]; exact sizeL_le ts ts.length htx (by omega)
 have hc := fun (w' : World) (h : TreeAt w' TA ts) => sizeNodes_any TA ts tc w' ht h htx
 simp only [← hR] at hc ⊢
 obtain ⟨n, hn⟩ : ∃ n, slots.length = n := ⟨_, rfl⟩
 obtain ⟨m, hm⟩ : ∃ m, ts.length = m := ⟨_, rfl⟩
 rw [hn] at hb0 hW hl ⊢
 rw [hm] at hc hb0 hW ⊢
 have hT0 := fun (w' : World) (h : Below w.heap.size w w') => hT.below h
 have HC := Lh hc
 have HT := Lh hT0
 have HBW := Lh hBW
 have HB0 := Lh hb0
 have HW := Lh hW
 clear hc hT0 hT hBW hb0 hW ht hR htx hn hm
 have hwi : IntKind.i64.wrap ((n : Int) + R) = (n : Int) + R := by rw [IntKind.wrap_i64]; (try unfold wrap64); omega
 have hbd : Below w.heap.size w (w.alloc (.cells #[.int .i64 on, .slice SA n sc, .bool when_, .slice TA m tc] 25)).drew := by rw [← HW.out]; exact HBW.out.drew
 have c1 : (w.alloc (.cells #[.int .i64 on, .slice SA n sc, .bool when_, .slice TA m tc] 25)).cell? ⟨w.heap.size, 1, none⟩ = some (.slice SA n sc) := by rw [← HW.out]; exact HB0.out.cell 1
 have c3 : (w.alloc (.cells #[.int .i64 on, .slice SA n sc, .bool when_, .slice TA m tc] 25)).cell? ⟨w.heap.size, 3, none⟩ = some (.slice TA m tc) := by rw [← HW.out]; exact HB0.out.cell 3
 have HBD := Lh hbd
 clear hbd
 go_enter Try.func17, Try.ntmps17
 go_wp2_with fail
 go_region_held3 (fun w' => w'.cell? ⟨w.heap.size, 1, none⟩ = some (.slice SA n sc) ∧ w'.cell? ⟨w.heap.size, 3, none⟩ = some (.slice TA m tc)) (first | exact ⟨c1, c3⟩ | go_keep) ((first | (go_at_call 43; refine (HC.out _ (HT.out _ HBD.out)).mono ?_; rintro e w5 ⟨rfl, rfl⟩)))
 all_goals go_wp2_with fail
 go_ret
 exact ⟨rfl, HBD.out⟩
end Go.Proofs.Ytggibiodeecljaa
namespace Go.Proofs.Ytggibiodeecljaa
open Go.RowKit
set_option linter.unusedVariables false
/-- In BoundAbles: the ability's box, the wide one's box, and its lists. -/
structure AbS (w0 : World) (bx bx5 : Array Value) (b5 b1 b2 m : Nat) (slots : List Int) (ts : List Node) (w : World) : Prop where
 be : Below w0.heap.size w0 w
 x2 : Blk w w0.heap.size 25 bx
 x5 : Blk w b5 25 bx5
 ks : Blk w b1 40 (smallVals (wideS slots)).toArray
 kn : NodeBlk w b2 (m + 64) (wideN ts) (m + 64)
theorem AbS.step {w0 w w' : World} {bx bx5 : Array Value} {b5 b1 b2 m : Nat} {slots : List Int} {ts : List Node} (h : AbS w0 bx bx5 b5 b1 b2 m slots ts w) (hb : Below w.heap.size w w') : AbS w0 bx bx5 b5 b1 b2 m slots ts w' :=
 ⟨h.be.trans (hb.mono h.be.size), h.x2.below hb h.x2.lt, h.x5.below hb h.x5.lt, h.ks.below hb h.ks.lt, h.kn.below hb⟩
theorem AbS.start {w w1 : World} {bx : Array Value} {b1 b2 m : Nat} {slots : List Int} {ts : List Node} (q1 : Below w.heap.size w w1) (q2 : Blk w1 w.heap.size 25 bx) (q3 : Blk w1 b1 40 (smallVals (wideS slots)).toArray) (q4 : NodeBlk w1 b2 (m + 64) (wideN ts) (m + 64)) (bx5 : Array Value) :
  AbS w bx bx5 w1.heap.size b1 b2 m slots ts (w1.alloc (.cells bx5 25)) :=
 ⟨q1.alloc q1.size (.cells bx5 25), q2.alloc _, Blk.new w1 _ _, q3.alloc _, q4.below ((Below.refl _ _).alloc (Nat.le_refl _) _)⟩
set_option maxRecDepth 100000 in
set_option maxHeartbeats 4000000 in
theorem ables_any (on : Int) (SA TA : Option Addr) (slots : List Int) (sc tc : Nat) (when_ : Bool) (ts : List Node) (cards : Int) (w : World) (hl : slots.length ≤ 281474976710656) (ht : ts.length ≤ 281474976710656) (hT : TreeAt w TA ts) (hS : SmallsAt w SA slots) (htx : ∀ x ∈ ts, x.text.size ≤ 4611686018427387904) (hrng : ∀ y ∈ ts, I64 y.n ∧ I64 y.m) :
  Calls Try.prog 4 #[.agg #[.int .i64 on, .slice SA slots.length sc, .bool when_, .slice TA ts.length tc], .int .i64 cards] w fun e w' => e = .returned (.bool true) ∧ Below w.heap.size w w' := by
 have hb0 : Below w.heap.size w (w.alloc (.cells #[.int .i64 on, .slice SA slots.length sc, .bool when_, .slice TA ts.length tc] 25)) := (Below.refl _ _).alloc (Nat.le_refl _) _
 have x0 := Blk.new w 25 #[.int .i64 on, .slice SA slots.length sc, .bool when_, .slice TA ts.length tc]
 have hsz := sizeAble_any on SA TA slots sc tc when_ ts _ hl ht (hT.below hb0) htx
 obtain ⟨S, hSz⟩ : ∃ S, S = (slots.length : Int) + sizeL ts ts.length := ⟨_, rfl⟩
 rw [← hSz] at hsz
 by_cases hbig : 16777216 < S
 ·have hd : decide (16777216 < S) = true := decide_eq_true hbig
  have HSZ := Lh hsz
  have HB0 := Lh hb0
  clear hsz hb0 x0 hSz hT hS htx hrng hl ht
  go_enter Try.func4, Try.ntmps4
  go_wp2_with fail
  refine HSZ.out.mono ?_
  rintro e w1 ⟨rfl, hb1⟩
  go_wp2_with fail
  refine (long_any S _).mono ?_
  rintro e w2 ⟨rfl, rfl⟩
  go_wp2_with fail
  go_ret
  exact ⟨rfl, HB0.out.trans (hb1.mono (by simp))⟩
 have hge := sizeL_ge ts ts.length
 have hsl : slots.length ≤ 16777216 := by omega
 have htl : ts.length ≤ 16777216 := by omega
 have htxt : ∀ y ∈ ts, y.text.size ≤ 1099511627776 := fun y hy => by have := sizeL_text ts ts.length (by omega) (by omega) y hy; omega
 have hd : decide (16777216 < S) = false := decide_eq_false hbig
 have hwi := fun (wx : World) (h : Below w.heap.size w wx) => wideAble_any on SA TA slots sc tc when_ ts wx hsl htl (hT.below h) (hS.below h)
 obtain ⟨r0, r1, hr⟩ : ∃ r0 r1, boundM on slots when_ ts cards = (r0, r1) := ⟨_, _, rfl⟩
 have hbo := fun (b1 b2 : Nat) (wx : World) (h1 : Blk wx b1 40 (smallVals (wideS slots)).toArray) (h2 : NodeBlk wx b2 (ts.length + 64) (wideN ts) (ts.length + 64)) => bound_any on (some ⟨b1, 0, none⟩) (some ⟨b2, 0, none⟩) slots (slots.length + 64) (ts.length + 64) when_ ts cards wx (treeAt_wide h2) (smallsAt_wide h1) htxt
 have hrf := fun (wx : World) (h : Below w.heap.size w wx) => bound18_any on SA TA slots sc tc when_ ts cards wx (hT.below h) (hS.below h) htxt hrng
 simp only [hr] at hbo hrf
 have heq := fun (b1 b2 : Nat) (wx : World) (h : Below w.heap.size w wx) (h1 : Blk wx b1 40 (smallVals (wideS slots)).toArray) (h2 : NodeBlk wx b2 (ts.length + 64) (wideN ts) (ts.length + 64)) => eqAble_same on (some ⟨b1, 0, none⟩) (some ⟨b2, 0, none⟩) SA TA slots (slots.length + 64) (ts.length + 64) sc tc when_ ts wx hsl htl (smallsAt_wide h1) (treeAt_wide h2) (hS.below h) (hT.below h)
 have hsp := fun (b1 b2 : Nat) (wx : World) (h1 : Blk wx b1 40 (smallVals (wideS slots)).toArray) (h2 : NodeBlk wx b2 (ts.length + 64) (wideN ts) (ts.length + 64)) => spareAble_any on slots when_ ts wx hsl htl b1 b2 h1 h2
 obtain ⟨n, hn⟩ : ∃ n, slots.length = n := ⟨_, rfl⟩
 obtain ⟨m, hm⟩ : ∃ m, ts.length = m := ⟨_, rfl⟩
 simp only [hn, hm] at hwi hbo hrf heq hsp hb0 x0 hsz
 rw [hn, hm]
 have HSZ := Lh hsz
 have HB0 := Lh hb0
 have X0 := Lh x0
 have HWI := Lh hwi
 have HBO := Lh hbo
 have HRF := Lh hrf
 have HEQ := Lh heq
 have HSP := Lh hsp
 have HL := Lh lives_any
 have hvv : (r0 == r0) = true := by simp
 have hqq : (r1 == r1) = true := by simp
 clear hsz hb0 x0 hwi hbo hrf heq hsp hSz hT hS htx htxt hrng hl ht hsl htl hn hm hr hge
 go_enter Try.func4, Try.ntmps4
 go_wp2_with fail
 refine HSZ.out.mono ?_
 rintro e w1 ⟨rfl, hb1⟩
 have B1 := Lh (HB0.out.trans (hb1.mono (by simp)))
 have X1 := Lh (X0.out.below hb1 (by simp))
 have d0 := X1.out.cell 0
 have d1 := X1.out.cell 1
 have d2 := X1.out.cell 2
 have d3 := X1.out.cell 3
 clear hb1
 go_wp2_with fail
 refine (long_any S _).mono ?_
 rintro e w2 ⟨rfl, rfl⟩
 go_wp2_with fail
 refine (HWI.out _ B1.out).mono ?_
 rintro e w2 ⟨b1, b2, rfl, hk1, hk2, hb2⟩
 have hz1 := X1.out.lt
 have hx2 := X1.out.below hb2 hz1
 have hA2 := AbS.start (B1.out.trans (hb2.mono B1.out.size)) hx2 hk1 hk2 #[.int .i64 on, .slice (some ⟨b1, 0, none⟩) n (n + 64), .bool when_, .slice (some ⟨b2, 0, none⟩) m (m + 64)]
 have A2 := Lh hA2
 clear hk1 hk2 hb2 hx2 d0 d1 d2 d3 hA2
 have e0 := A2.out.x5.cell 0
 have e1 := A2.out.x5.cell 1
 have e2 := A2.out.x5.cell 2
 have e3 := A2.out.x5.cell 3
 have d0 := A2.out.x2.cell 0
 have d1 := A2.out.x2.cell 1
 have d2 := A2.out.x2.cell 2
 have d3 := A2.out.x2.cell 3
 obtain ⟨b5, hb5⟩ : ∃ b5, b5 = w2.heap.size := ⟨_, rfl⟩
 go_wp2_with fail
 refine (HBO.out b1 b2 _ A2.out.ks A2.out.kn).mono ?_
 rintro e w3 ⟨rfl, hb3⟩
 have A3 := Lh (A2.out.step hb3)
 clear hb3 e0 e1 e2 e3 d0 d1 d2 d3
 have e0 := A3.out.x5.cell 0
 have e1 := A3.out.x5.cell 1
 have e2 := A3.out.x5.cell 2
 have e3 := A3.out.x5.cell 3
 have d0 := A3.out.x2.cell 0
 have d1 := A3.out.x2.cell 1
 have d2 := A3.out.x2.cell 2
 have d3 := A3.out.x2.cell 3
 go_wp2_with fail
 refine (HRF.out _ A3.out.be).mono ?_
 rintro e w4 ⟨rfl, hb4⟩
 have A4 := Lh (A3.out.step hb4)
 clear hb4 e0 e1 e2 e3 d0 d1 d2 d3
 have e0 := A4.out.x5.cell 0
 have e1 := A4.out.x5.cell 1
 have e2 := A4.out.x5.cell 2
 have e3 := A4.out.x5.cell 3
 have d0 := A4.out.x2.cell 0
 have d1 := A4.out.x2.cell 1
 have d2 := A4.out.x2.cell 2
 have d3 := A4.out.x2.cell 3
 go_wp2_with fail
 refine (HEQ.out b1 b2 _ A4.out.be A4.out.ks A4.out.kn).mono ?_
 rintro e w5 ⟨rfl, hb5⟩
 have A5 := Lh (A4.out.step hb5)
 clear hb5 e0 e1 e2 e3 d0 d1 d2 d3
 have e0 := A5.out.x5.cell 0
 have e1 := A5.out.x5.cell 1
 have e2 := A5.out.x5.cell 2
 have e3 := A5.out.x5.cell 3
 go_wp2_with fail
 refine (HSP.out b1 b2 _ A5.out.ks A5.out.kn).mono ?_
 rintro e w6 ⟨rfl, hb6⟩
 have A6 := Lh (A5.out.step hb6)
 clear hb6 e0 e1 e2 e3
 go_wp2_with fail
 refine (HL.out _).mono ?_
 rintro e w7 ⟨rfl, hb7⟩
 have A7 := Lh (A6.out.step hb7)
 clear hb7
 go_wp2_with fail
 go_ret
 exact ⟨rfl, A7.out.be⟩
end Go.Proofs.Ytggibiodeecljaa
namespace Go.Proofs.Ytggibiodeecljaa
open Go.ChangeShapes Go.WideShapes Go.ChangeAt Go.RowKit Go.Joins
set_option linter.unusedVariables false
theorem own_ : ownKnob Try.prog.godebug = none := by kernel_rfl
theorem laidOut_ : laidOutB Try.prog = true := by kernel_rfl
set_option maxRecDepth 100000 in
theorem ablesLifted (os : Os) (started : os.Started) (H : Type) (enc : TypeId × Value → H) :
  ReturnsInHanded {} Try.checked os 4 .any (Rows.boundAblesSpec.pre6 enc Try.prog Try.f4 Rows.boundAblesRow.domain false) (Rows.boundAblesSpec.post enc Try.prog Try.f4 false true false false) := by
 refine returnsInHanded_of_change_sized (C := Try.checked) own_ started (by kernel_rfl) Try.func4
  (ChangeSpec.witness6 (enc := enc) (C := Try.checked) false ⟨#[], #[.agg #[.int .i64 0, .slice none 0 0, .bool false, .slice none 0 0], .int .i64 0], []⟩ 8 (by kernel_rfl) (by kernel_rfl) (by kernel_rfl) (by kernel_rfl)) ?_
 intro W base args ds gs before hval0 hW hcnd hsz0 _
 have hval : ∀ (j : Nat) t v, Try.f4.params[j]? = some t → args[j]? = some v → Value.okWide Try.prog W .any base t v := hval0
 have hsz : (DataW.weightsEach Try.prog (Try.f4.params.toList ++ Rows.boundAblesSpec.plain.varTypes Try.prog) (ds ++ gs)).all (· ≤ reachBytes) = true := hsz0
 have hW' := hW
 obtain ⟨p, q, hA0, hV, rfl, hfz, hnd⟩ := hW
 have hA : DataW.TrodAll enc Try.prog W 0 (fun _ => true) true Try.f4.params.toList args.toList ds p := hA0
 rw [Try.params4] at hA hval hsz
 obtain ⟨v0, vs0, d0, ds0, p0, q0, hargs, rfl, rfl, h0, r0⟩ := trodAll_cons hA
 obtain ⟨v1, vs1, d1, ds1, p1, q1, rfl, rfl, rfl, h1, r1⟩ := trodAll_cons r0
 obtain ⟨rfl, rfl, rfl⟩ := trodAll_nil r1
 obtain rfl : args = #[v0, v1] := by cases args; simp_all
 obtain ⟨rfl, rfl⟩ := trodVars_none hV
 have k0 := h0
 have lt0 : ∀ x ∈ p0, x.block < W.heap.size := by obtain ⟨m, hm⟩ := k0; exact DataW.trod_lt m _ _ _ hm
 obtain ⟨on, SA, slots, sc, when_, TA, ts, tc, rfl, hS, hT, l1, l2, l3⟩ := open_able (hval 0 25 v0 rfl rfl) h0 (fun n hn => by
  have := List.all_eq_true.1 hsz n (DataW.weights_mem_each (j := 0) rfl rfl n hn)
  simpa using this)
 obtain ⟨a1, rfl, rfl, rfl, w1⟩ := open_int Try.underlying3 (hval 1 3 v1 rfl rfl) h1
 clear hA0 hval0 hsz hsz0
 have hR : reachBytes = 140737488351232 := rfl
 refine (ables_any on SA TA slots sc tc when_ ts a1 W (by omega) (by omega) hT hS (fun x hx => by have := (l3 x hx).1; omega) (fun x hx => (l3 x hx).2)).mono fun e W' ⟨he, bel⟩ => ?_
 subst he
 exact ⟨_, rfl, _, _, _, [], _, [], hW', trodAll_mk1 (shut_bool Try.underlying4 _), (trodAll_cons_mk (Below.trod laidOut_ (by kernel_rfl) (of_decide_eq_true (by kernel_rfl)) k0 bel lt0) (trodAll_cons_mk (shut_int Try.underlying3 w1) trodAll_mk0)), rfl, bel.frame _, fun h => by cases h⟩
/-- The law BoundAbles holds. -/
theorem boundAbles_holds : Rows.BoundAblesSaid :=
 OpenClaim.holds_of_wide 4 Try.f4 rfl rfl rfl rfl rfl rfl rfl ⟨rfl, rfl, rfl, rfl, rfl⟩ rfl rfl rfl rfl rfl (by kernel_rfl) Try.func4 (by kernel_rfl)
  (of_decide_eq_true (by kernel_rfl)) (by unfold Func.isWrapper; first | (rw [if_pos (by decide +kernel)]; kernel_rfl) | (rw [if_neg (by decide +kernel)]; exact ⟨rfl, rfl⟩))
  (fun os started H enc _ => ablesLifted os started H enc)
end Go.Proofs.Ytggibiodeecljaa
