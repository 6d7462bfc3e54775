/- tableauref00: EqBytes. tableaulaw17's works: two closed answers. tableaulaw17's beyond. -/
import Derived.Test.YtggibiodeecljaaMLook
import Derived.Test.YtggibiodeecljaaMEmitC
import Derived.Test.YtggibiodeecljaaMEmit7
import Derived.Test.YtggibiodeecljaaMRows
namespace Go.Proofs.Ytggibiodeecljaa
open Go.RowKit
set_option linter.unusedVariables false

set_option maxHeartbeats 400000 in
/-- EqBytes. -/
theorem eqBytes_any (A B : Option Addr) (c d : Nat) (l m : List Int) (w : World) (hl : l.length ≤ 1099511627776) (hm : m.length ≤ 1099511627776)
    (h1 : ∀ k x, l[k]? = some x → ∃ b off, A = some ⟨b, off, none⟩ ∧ w.cell? ⟨b, off + k, none⟩ = some (.int .u8 x)) (h2 : ∀ k x, m[k]? = some x → ∃ b off, B = some ⟨b, off, none⟩ ∧ w.cell? ⟨b, off + k, none⟩ = some (.int .u8 x)) :
    Calls Try.prog 16 #[.slice A l.length c, .slice B m.length d] w fun e w' => e = .returned (.bool (decide (l = m))) ∧ ∃ n, w' = w.drewN n := by
  by_cases hne : l.length = m.length
  · obtain ⟨len, hlen⟩ : ∃ len, l.length = len := ⟨_, rfl⟩
    rw [← hne, hlen]
    have HL := Lib.hid hlen
    have HN := Lib.hid hne
    have H1 := Lib.hid h1
    have H2 := Lib.hid h2
    rw [hlen] at hl
    clear h1 h2 hm hne hlen
    have hb : ((len : Int) != (len : Int)) = false := by simp
    go_enter Try.func16, Try.ntmps16
    go_wp2
    go_loopw [5] (fun i wr => ∃ k : Nat, k ≤ len ∧ i = .int .i64 k ∧ Hid (l.take k = m.take k) ∧ ∃ n, wr = w.drewN n) (fun i _ => len - (intOf i).toNat)
    case atStart => exact ⟨0, by omega, rfl, rfl, 0, rfl⟩
    case round =>
      obtain ⟨k, hk, rfl, H, n, rfl⟩ := hrel
      by_cases hlt : k < len
      · have hk1 : k < l.length := by rw [HL.out]; exact hlt
        have hk2 : k < m.length := by rw [← HN.out, HL.out]; exact hlt
        obtain ⟨x, hx⟩ : ∃ x, l[k]? = some x := ⟨_, List.getElem?_eq_getElem hk1⟩
        obtain ⟨y, hy⟩ : ∃ y, m[k]? = some y := ⟨_, List.getElem?_eq_getElem hk2⟩
        obtain ⟨b1, o1, rfl, c1⟩ := H1.out k x hx
        obtain ⟨b2, o2, rfl, c2⟩ := H2.out k y hy
        have HX := Lib.hid hx
        have HY := Lib.hid hy
        clear hx hy hk1 hk2
        by_cases hv : x = y
        · have hvb : (x != y) = false := by simp [hv]
          have HV := Lib.hid hv
          clear hv
          go_wp2_with fail
          go_quiet (fail)
          go_wp2
          go_roundw
          case rel =>
            refine ⟨k + 1, by omega, by go_num, ?_, _, rfl⟩
            unfold Hid
            rw [List.take_add_one, List.take_add_one, H.out, HX.out, HY.out, HV.out]
          case measure => (simp [intOf]; try omega)
        · have hvb : (x != y) = true := by simp [hv]
          have hf : decide (l = m) = false := by
            simp only [decide_eq_false_iff_not]
            rintro rfl
            have := HX.out.symm.trans HY.out
            exact hv (by injection this)
          have HF := Lib.hid hf
          clear hf hv
          go_wp2_with fail
          go_quiet (fail)
          go_wp2
          go_ret
          exact ⟨ret_bool HF.out.symm, n + nq, by rw [World.drewN_drewN]⟩
      · have hf : decide (l = m) = true := by
          have := H.out
          rw [List.take_of_length_le (by rw [HL.out]; omega), List.take_of_length_le (by rw [← HN.out, HL.out]; omega)] at this
          simp [this]
        have HF := Lib.hid hf
        clear hf
        go_wp2
        go_ret
        exact ⟨ret_bool HF.out.symm, _, rfl⟩
  · have hb : ((l.length : Int) != (m.length : Int)) = true := by simp; omega
    have hf : decide (l = m) = false := by
      simp only [decide_eq_false_iff_not]
      rintro rfl
      exact hne rfl
    have HF := Lib.hid hf
    clear h1 h2 hf
    have hne' : ¬ ((l.length : Int) = (m.length : Int)) := by omega
    go_enter Try.func16, Try.ntmps16
    go_wp2
    go_ret
    exact ⟨ret_bool HF.out.symm, 0, rfl⟩
end Go.Proofs.Ytggibiodeecljaa
namespace Go.Proofs.Ytggibiodeecljaa
open Go.RowKit
set_option linter.unusedVariables false

theorem below_drewN {B : Nat} {w w' : World} (h : Below B w w') (n : Nat) : Below B w (w'.drewN n) := ⟨h.os, h.tape, h.output, h.size, h.block⟩
/-- A row of bytes. -/
def U8At (w : World) (A : Option Addr) (l : List Int) : Prop := ∀ k x, l[k]? = some x → ∃ b off, A = some ⟨b, off, none⟩ ∧ b < w.heap.size ∧ w.cell? ⟨b, off + k, none⟩ = some (.int .u8 x)
theorem U8At.below {w w' : World} {A : Option Addr} {l : List Int} (h : U8At w A l) (hb : Below w.heap.size w w') : U8At w' A l := by
  intro k x hk
  obtain ⟨b, off, h1, h2, h3⟩ := h k x hk
  exact ⟨b, off, h1, Nat.lt_of_lt_of_le h2 hb.size, (hb.cell (p := ⟨b, _, none⟩) h2).trans h3⟩
theorem U8At.weak {w : World} {A : Option Addr} {l : List Int} (h : U8At w A l) : ∀ k x, l[k]? = some x → ∃ b off, A = some ⟨b, off, none⟩ ∧ w.cell? ⟨b, off + k, none⟩ = some (.int .u8 x) := by
  intro k x hk
  obtain ⟨b, off, h1, h2, h3⟩ := h k x hk
  exact ⟨b, off, h1, h3⟩
theorem own_u8 {w : World} {S n c : Nat} {A : Option Addr} {l : List Int} (h : w.ownsRow S 5 1 (.slice A n c) n (u8Vals l)) : U8At w A l := by
  intro k x hk
  obtain ⟨b, e, h2, h3, h4⟩ := row_cells h k (.int .u8 x) (by simp [u8Vals, hk])
  exact ⟨b, 0, e, h3, by rw [Nat.zero_add]; exact h4⟩
theorem longs_blk {w : World} {b : Nat} {t : TypeId} {l : List Int} (h : Blk w b t (intVals l).toArray) : IntsAt w (some ⟨b, 0, none⟩) l := by
  intro k x hk
  refine ⟨b, 0, rfl, h.lt, ?_⟩
  rw [Nat.zero_add, h.cell, List.getElem?_toArray, intVals, List.getElem?_map, hk]
  rfl
theorem u8_blk {w : World} {b : Nat} {t : TypeId} {l : List Int} (h : Blk w b t (u8Vals l).toArray) : U8At w (some ⟨b, 0, none⟩) l := by
  intro k x hk
  refine ⟨b, 0, rfl, h.lt, ?_⟩
  rw [Nat.zero_add, h.cell, List.getElem?_toArray, u8Vals, List.getElem?_map, hk]
  rfl
theorem texts_none (w : World) (A : Option Addr) : TextsAt w A [] := fun k x h => by simp at h

theorem little_mem (w : World) {o1 o2 o3 : Obj} {b1 : Array Value} (h1 : o1 = .cells b1 25) (h2 : o2 = .cells (([3, 4] : List Int).map (Value.int .i8)).toArray 40) (h3 : o3 = .cells (tsLittle.flatMap Node.cells).toArray 42) :
    SmallsAt (((w.alloc o1).alloc o2).alloc o3) (some ⟨w.heap.size + 1, 0, none⟩) [3, 4] ∧ TreeAt (((w.alloc o1).alloc o2).alloc o3) (some ⟨w.heap.size + 1 + 1, 0, none⟩) tsLittle ∧ Below w.heap.size w (((w.alloc o1).alloc o2).alloc o3) := by
  subst h1 h2 h3
  generalize hw1 : w.alloc (.cells b1 25) = w1 at *
  have s1 : w1.heap.size = w.heap.size + 1 := by rw [← hw1, World.size_alloc]
  have r2 := Blk.new w1 40 (([3, 4] : List Int).map (Value.int .i8)).toArray
  generalize hw2 : w1.alloc (.cells (([3, 4] : List Int).map (Value.int .i8)).toArray 40) = w2 at *
  have s2 : w2.heap.size = w.heap.size + 1 + 1 := by rw [← hw2, World.size_alloc, s1]
  have r3 := Blk.new w2 42 (tsLittle.flatMap Node.cells).toArray
  have q1 : Below w.heap.size w w1 := by rw [← hw1]; exact (Below.refl _ _).alloc (Nat.le_refl _) _
  have q2 : Below w1.heap.size w1 w2 := by rw [← hw2]; exact (Below.refl _ _).alloc (Nat.le_refl _) _
  have q3 : Below w2.heap.size w2 (w2.alloc (.cells (tsLittle.flatMap Node.cells).toArray 42)) := (Below.refl _ _).alloc (Nat.le_refl _) _
  rw [s1] at r2
  rw [s2] at r3
  refine ⟨smalls_blk (r2.below q3 (by omega)), .inr ⟨_, 0, rfl, r3.lt, nodes_blk r3⟩, q1.trans ((q2.mono (by omega)).trans (q3.mono (by omega)))⟩

set_option maxRecDepth 100000 in
theorem little_any (w : World) : Calls Try.prog 42 #[] w fun e w' => ∃ SA TA, e = .returned (.agg #[.int .i64 0, .slice SA 2 2, .bool false, .slice TA 4 4]) ∧ SmallsAt w' SA [3, 4] ∧ TreeAt w' TA tsLittle ∧ Below w.heap.size w w' := by
  go_enter Try.func42, Try.ntmps42
  go_wp2_with fail
  obtain ⟨k1, k2, k3⟩ := little_mem w (b1 := #[.int .i64 0, .slice (some ⟨w.heap.size + 1, 0, none⟩) 2 2, .bool false, .slice (some ⟨w.heap.size + 1 + 1, 0, none⟩) 4 4]) rfl rfl rfl
  have K1 := Lib.hid k1
  have K2 := Lib.hid k2
  have K3 := Lib.hid k3
  clear k1 k2 k3
  refine bodyPost_ret (v := .agg #[.int .i64 0, .slice (some ⟨w.heap.size + 1, 0, none⟩) 2 2, .bool false, .slice (some ⟨w.heap.size + 1 + 1, 0, none⟩) 4 4]) (by simp [results, Try.results42, go_sem]) rfl ⟨_, _, rfl, K1.out, K2.out, K3.out⟩

theorem little_texts : ∀ y ∈ tsLittle, y.text.size ≤ 1099511627776 := by
  have he : ByteArray.empty.size = 0 := rfl
  intro y hy
  simp [tsLittle, nd] at hy
  rcases hy with rfl | rfl | rfl | rfl <;> (show ByteArray.empty.size ≤ _; omega)

set_option maxRecDepth 100000 in
set_option maxHeartbeats 2000000 in
theorem works17_any (w : World) : Calls Try.prog 15 #[] w fun e w' => e = .returned (.bool true) ∧ Below w.heap.size w w' := by
  have HT := Lib.hid little_texts
  have hE := fun (SA TA : Option Addr) (w1 : World) (hS : SmallsAt w1 SA [3, 4]) (hT : TreeAt w1 TA tsLittle) => eable_any 0 SA TA [3, 4] 2 4 false tsLittle (some ⟨w1.heap.size, 0, none⟩) none [0, 1, 5] [] 3 0 (w1.alloc (.cells (intVals [0, 1, 5]).toArray 2)) (by decide) (by decide) (longs_blk (Blk.new w1 _ _)) (texts_none _ _) (hT.below ((Below.refl _ _).alloc (Nat.le_refl _) _)) (hS.below ((Below.refl _ _).alloc (Nat.le_refl _) _)) HT.out
  have hF := fun (SA TA : Option Addr) (w1 : World) (hS : SmallsAt w1 SA [3, 4]) (hT : TreeAt w1 TA tsLittle) => eable_any 0 SA TA [3, 4] 2 4 false tsLittle (some ⟨w1.heap.size, 0, none⟩) none [0, 1] [] 2 0 (w1.alloc (.cells (intVals [0, 1]).toArray 2)) (by decide) (by decide) (longs_blk (Blk.new w1 _ _)) (texts_none _ _) (hT.below ((Below.refl _ _).alloc (Nat.le_refl _) _)) (hS.below ((Below.refl _ _).alloc (Nat.le_refl _) _)) HT.out
  rw [little_yes] at hE
  rw [little_no] at hF
  have HE := Lib.hid hE
  have HF := Lib.hid hF
  clear hE hF HT
  go_enter Try.func15, Try.ntmps15
  go_wp2_with fail
  refine (little_any _).mono ?_
  rintro e w1 ⟨SA, TA, rfl, hS, hT, hb1⟩
  have hE := HE.out SA TA w1 hS hT
  have B1 := Lib.hid (hb1.alloc hb1.size (.cells (intVals [0, 1, 5]).toArray 2))
  have HE2 := Lib.hid hE
  clear hS hT hb1 hE HE
  go_wp2_with fail
  refine HE2.out.mono ?_
  rintro e w2 ⟨bv, rfl, ho, hb2⟩
  obtain ⟨A, c, rfl⟩ := own_form ho
  have BA := Lib.hid (own_u8 ho)
  have B2 := Lib.hid (B1.out.trans (hb2.mono B1.out.size))
  clear ho hb2 HE2 B1
  go_wp2_with fail
  refine (little_any _).mono ?_
  rintro e w3 ⟨SA3, TA3, rfl, hS, hT, hb3⟩
  have hF := HF.out SA3 TA3 w3 hS hT
  have BA3 := Lib.hid (BA.out.below (hb3.alloc hb3.size (.cells (intVals [0, 1]).toArray 2)))
  have B3 := Lib.hid (B2.out.trans ((hb3.alloc hb3.size (.cells (intVals [0, 1]).toArray 2)).mono B2.out.size))
  have HF2 := Lib.hid hF
  clear hS hT hb3 hF HF BA B2
  go_wp2_with fail
  refine HF2.out.mono ?_
  rintro e w4 ⟨bv4, rfl, ho4, hb4⟩
  have BA4 := Lib.hid (BA3.out.below hb4)
  have B4 := Lib.hid (B3.out.trans (hb4.mono B3.out.size))
  clear ho4 hb4 HF2 BA3 B3
  have b5 : Below w4.heap.size w4 (w4.alloc (.cells (u8Vals [4, 0, 1, 0, 2, 60, 6, 34]).toArray 5)) := (Below.refl _ _).alloc (Nat.le_refl _) _
  have hq := eqBytes_any A (some ⟨w4.heap.size, 0, none⟩) c 8 [4, 0, 1, 0, 2, 60, 6, 34] [4, 0, 1, 0, 2, 60, 6, 34] (w4.alloc (.cells (u8Vals [4, 0, 1, 0, 2, 60, 6, 34]).toArray 5)) (by decide) (by decide) (BA4.out.below b5).weak (u8_blk (Blk.new w4 _ _)).weak
  have hd : decide (([4, 0, 1, 0, 2, 60, 6, 34] : List Int) = [4, 0, 1, 0, 2, 60, 6, 34]) = true := by decide
  rw [hd] at hq
  have HQ := Lib.hid hq
  have B5 := Lib.hid (B4.out.trans (b5.mono B4.out.size))
  clear hq hd b5 BA4 B4
  go_wp2_with fail
  refine HQ.out.mono ?_
  rintro e w6 ⟨rfl, n, rfl⟩
  go_wp2_with fail
  go_ret
  exact ⟨rfl, below_drewN B5.out n⟩
end Go.Proofs.Ytggibiodeecljaa
namespace Go.Proofs.Ytggibiodeecljaa
open Go.RowKit
set_option linter.unusedVariables false

def beyondB (slots : List Int) (ts : List Node) (ints : List Int) (texts : List ByteArray) : Bool :=
  decide (16777216 < (slots.length : Int) + sizeL ts ts.length) || decide (16777216 < (ints.length : Int)) || decide (16777216 < sizeX texts texts.length)

set_option maxRecDepth 100000 in
set_option maxHeartbeats 1000000 in
theorem beyond_any (on : Int) (SA TA : Option Addr) (slots : List Int) (sc tc : Nat) (wh : Bool) (ts : List Node) (IA XA : Option Addr) (ints : List Int) (texts : List ByteArray) (ic xc : Nat) (w : World) (hl : slots.length ≤ 281474976710656) (ht : ts.length ≤ 281474976710656) (hil : ints.length ≤ 281474976710656) (hxl : texts.length ≤ 281474976710656) (hT : TreeAt w TA ts) (hX : TextsAt w XA texts) (htx : ∀ x ∈ ts, x.text.size ≤ 4611686018427387904) (hxx : ∀ x ∈ texts, x.size ≤ 4611686018427387904) :
    Calls Try.prog 9 #[.agg #[.int .i64 on, .slice SA slots.length sc, .bool wh, .slice TA ts.length tc, .slice IA ints.length ic, .slice XA texts.length xc]] w fun e w' => e = .returned (.bool (beyondB slots ts ints texts)) ∧ Below w.heap.size w w' := by
  obtain ⟨W, hW⟩ : ∃ W, W = w.alloc (.cells #[.int .i64 on, .slice SA slots.length sc, .bool wh, .slice TA ts.length tc, .slice IA ints.length ic, .slice XA texts.length xc] 29) := ⟨_, rfl⟩
  have hBW : Below w.heap.size w W := by rw [hW]; exact (Below.refl _ _).alloc (Nat.le_refl _) _
  have hb0 : Blk W w.heap.size 29 #[.int .i64 on, .slice SA slots.length sc, .bool wh, .slice TA ts.length tc, .slice IA ints.length ic, .slice XA texts.length xc] := by rw [hW]; exact Blk.new _ _ _
  have hsz := sizeAble_any on SA TA slots sc tc wh ts W hl ht (hT.below hBW) htx
  have hst := fun (w' : World) (h : Below w.heap.size w w') => sizeTexts_any XA texts xc w' hxl (hX.below h) hxx
  obtain ⟨B, hB⟩ : ∃ B, B = beyondB slots ts ints texts := ⟨_, rfl⟩
  rw [← hB]
  unfold beyondB at hB
  obtain ⟨R, hR⟩ : ∃ R, R = sizeL ts ts.length := ⟨_, rfl⟩
  obtain ⟨X, hX'⟩ : ∃ X, X = sizeX texts texts.length := ⟨_, rfl⟩
  rw [← hR] at hB hsz
  simp only [← hX'] at hB hst
  obtain ⟨p, hp⟩ : ∃ p, slots.length = p := ⟨_, rfl⟩
  obtain ⟨m, hm⟩ : ∃ m, ts.length = m := ⟨_, rfl⟩
  obtain ⟨ni, hni⟩ : ∃ n, ints.length = n := ⟨_, rfl⟩
  obtain ⟨nx, hnx⟩ : ∃ n, texts.length = n := ⟨_, rfl⟩
  simp only [hp, hm, hni, hnx] at hB hb0 hW hsz hst ⊢
  obtain ⟨b1, h1⟩ : ∃ b, decide (16777216 < (p : Int) + R) = b := ⟨_, rfl⟩
  obtain ⟨b2, h2⟩ : ∃ b, decide (16777216 < (ni : Int)) = b := ⟨_, rfl⟩
  obtain ⟨b3, h3⟩ : ∃ b, decide (16777216 < X) = b := ⟨_, rfl⟩
  rw [h1, h2, h3] at hB
  have HB := Lib.hid hB
  have H1 := Lib.hid h1
  have H2 := Lib.hid h2
  have H3 := Lib.hid h3
  have HW := Lib.hid hW
  have HSZ := Lib.hid hsz
  have HST := Lib.hid hst
  have HBW := Lib.hid hBW
  have HK := Lib.hid hb0
  clear hB h1 h2 h3 hW hsz hst hBW hb0 hT hX htx hxx hR hX' hp hm hni hnx hl ht hil hxl
  go_enter Try.func9, Try.ntmps9
  go_wp2_with fail
  rw [← HW.out]
  have z0 := HK.out.cell 0
  have z1 := HK.out.cell 1
  have z2 := HK.out.cell 2
  have z3 := HK.out.cell 3
  go_wp2_with fail
  refine HSZ.out.mono ?_
  rintro e w1 ⟨rfl, hb1⟩
  have k1 := HK.out.below hb1 HK.out.lt
  have c4 := k1.cell 4
  have c5 := k1.cell 5
  have B1 := Lib.hid (HBW.out.trans (hb1.mono HBW.out.size))
  clear hb1 k1 z0 z1 z2 z3
  go_wp2_with fail
  refine (long_any _ _).mono ?_
  rintro e w' ⟨rfl, rfl⟩
  rw [H1.out]
  cases b1 with
  | true =>
    have hq : B = true := HB.out
    subst hq
    go_wp2_with fail
    go_ret
    exact ⟨rfl, B1.out⟩
  | false =>
    go_wp2_with fail
    refine (long_any _ _).mono ?_
    rintro e w' ⟨rfl, rfl⟩
    rw [H2.out]
    cases b2 with
    | true =>
      have hq : B = true := by rw [HB.out]; rfl
      subst hq
      go_wp2_with fail
      go_ret
      exact ⟨rfl, B1.out⟩
    | false =>
      go_wp2_with fail
      refine (HST.out _ B1.out).mono ?_
      rintro e w' ⟨rfl, rfl⟩
      go_wp2_with fail
      refine (long_any _ _).mono ?_
      rintro e w' ⟨rfl, rfl⟩
      rw [H3.out]
      have hq : B = b3 := by rw [HB.out]; rfl
      subst hq
      go_wp2_with fail
      go_ret
      exact ⟨rfl, B1.out⟩
end Go.Proofs.Ytggibiodeecljaa
