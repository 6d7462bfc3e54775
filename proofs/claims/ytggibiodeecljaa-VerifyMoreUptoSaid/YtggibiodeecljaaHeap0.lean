/- rows.Heap[int] in memory; none, ahead. -/
import Derived.Test.YtggibiodeecljaaHeapM
import Derived.Test.YtggibiodeecljaaSerial2
import Derived.Test.YtggibiodeecljaaBits
import Derived.Laws.AppendOwnNone
import Derived.Laws.EntriesVeiled
import Derived.Deep.AppendLies
import Derived.Deep.RegionHeld3
import Derived.Deep.DeepCutAuto
import Derived.Deep.QuietTactic
import Derived.BigQuiet
namespace Go.Proofs.Ytggibiodeecljaa
open Go.RowKit
set_option linter.unusedVariables false

/-- A heap of ints, the least first, in memory. -/
def HeapAt (w : World) (B hb : Nat) (l : List HEnt) (came : Int) : Prop :=
  ∃ v, B ≤ hb ∧ Blk w hb 167 #[.func (.func 69) #[] #[], v, .int .i64 came] ∧ w.ownsRow B 172 2 v l.length (entVals l)
theorem less_any (a b : Int) (w : World) : Calls Try.prog 69 #[.int .i64 a, .int .i64 b] w fun e w' => e = .returned (.bool (decide (a < b))) ∧ w = w' := by
  go_enter Try.func69, Try.ntmps69
  go_wp2
  go_ret
  all_goals exact ⟨by simp, rfl⟩
/-- Two entries in cells of their own. -/
def TwoAt (w wx : World) (a b : Value) (x y : HEnt) : Prop := ∃ ga gb, a = .pointer (some ⟨ga, 0, none⟩) ∧ b = .pointer (some ⟨gb, 0, none⟩) ∧ Below w.heap.size w wx ∧ wx.cell? ⟨ga, 0, none⟩ = some (.int .i64 x.1) ∧ wx.cell? ⟨ga, 1, none⟩ = some (.int .i64 x.2) ∧ wx.cell? ⟨gb, 0, none⟩ = some (.int .i64 y.1) ∧ wx.cell? ⟨gb, 1, none⟩ = some (.int .i64 y.2)
theorem TwoAt.one (w : World) (x y : HEnt) (t : TypeId) : TwoAt w ((w.alloc (.cells #[.int .i64 x.1, .int .i64 x.2] t)).alloc (.cells #[.int .i64 y.1, .int .i64 y.2] t)).drew (.pointer (some ⟨w.heap.size, 0, none⟩)) (.pointer (some ⟨w.heap.size + 1, 0, none⟩)) x y := by
  have k1 := (Blk.new w t #[.int .i64 x.1, .int .i64 x.2]).alloc (.cells #[.int .i64 y.1, .int .i64 y.2] t)
  have k2 := Blk.new (w.alloc (.cells #[.int .i64 x.1, .int .i64 x.2] t)) t #[.int .i64 y.1, .int .i64 y.2]
  rw [World.size_alloc] at k2
  exact ⟨_, _, rfl, rfl, (((Below.refl _ _).alloc (Nat.le_refl _) _).alloc (by simp) _).drew, k1.cell 0, k1.cell 1, k2.cell 0, k2.cell 1⟩
theorem TwoAt.two (w : World) (x y : HEnt) (t : TypeId) : TwoAt w ((w.alloc (.cells #[.int .i64 y.1, .int .i64 y.2] t)).alloc (.cells #[.int .i64 x.1, .int .i64 x.2] t)).drew (.pointer (some ⟨w.heap.size + 1, 0, none⟩)) (.pointer (some ⟨w.heap.size, 0, none⟩)) x y := by
  have k1 := (Blk.new w t #[.int .i64 y.1, .int .i64 y.2]).alloc (.cells #[.int .i64 x.1, .int .i64 x.2] t)
  have k2 := Blk.new (w.alloc (.cells #[.int .i64 y.1, .int .i64 y.2] t)) t #[.int .i64 x.1, .int .i64 x.2]
  rw [World.size_alloc] at k2
  exact ⟨_, _, rfl, rfl, (((Below.refl _ _).alloc (Nat.le_refl _) _).alloc (by simp) _).drew, k2.cell 0, k2.cell 1, k1.cell 0, k1.cell 1⟩
theorem below_drewNs {B : Nat} {w w' : World} (h : Below B w w') (n : Nat) : Below B w (w'.drewN n) := ⟨h.os, h.tape, h.output, h.size, h.block⟩
/-- Like Frm, and no map has turned. -/
structure FrmH (B : Nat) (T : List TypeId) (w w' : World) : Prop where
  frm : Frm B T w w'
  maps : ∀ (g : Nat) (es : Array MapEntry) (c : Nat), w.heap[g]? = some (Obj.map es c) → w'.heap[g]? = w.heap[g]?
section
variable {B : Nat} {T : List TypeId} {w w' a b c : World}
theorem FrmH.refl (B : Nat) (T : List TypeId) (w : World) : FrmH B T w w := ⟨Frm.refl _ _ _, fun _ _ _ _ => rfl⟩
theorem FrmH.trans (h : FrmH B T a b) (k : FrmH B T b c) : FrmH B T a c :=
  ⟨h.frm.trans k.frm, fun g es d hg => (k.maps g es d ((h.maps g es d hg).trans hg)).trans (h.maps g es d hg)⟩
theorem FrmH.size (h : FrmH B T w w') : w.heap.size ≤ w'.heap.size := h.frm.size
theorem FrmH.drew (h : FrmH B T a w) : FrmH B T a w.drew := ⟨h.frm.drew, h.maps⟩
theorem FrmH.set_ (h : FrmH B T a w) {g i : Nat} {t : TypeId} {cs : Array Value} (hg : Blk w g t cs) (hB : B ≤ g) (ht : t ∈ T) (u : Value) : FrmH B T a (w.setCell ⟨g, i, none⟩ u) :=
  ⟨h.frm.set_ hg hB ht u, fun g' es d hg' => by
    have h1 := h.maps g' es d hg'
    rw [Below.heap_setCell w _ u g' ?_, h1]
    rintro rfl
    have h2 := (h1.trans hg').symm.trans hg
    cases h2⟩
theorem FrmH.of_below (h : Below w.heap.size w w') (hB : B ≤ w.heap.size) : FrmH B T w w' :=
  ⟨Frm.of_below h hB, fun g _ _ hg => h.block g (Array.getElem?_eq_some_iff.1 hg).1⟩
theorem FrmH.grown {base : Nat} {e : TypeId} {size n : Nat} {v : Value} {xs : List Value} (h : FrmH B T a w) (ho : w.ownsRow base e size v n xs) (hg : w.grownBy w' v.ownBlock) (hB : B ≤ base) (hs : B ≤ w.heap.size) (ht : e ∈ T) : FrmH B T a w' := by
  refine ⟨h.frm.grown ho hg hB hs ht, fun g es d hg' => ?_⟩
  have h1 := h.maps g es d hg'
  rw [hg.block g (Array.getElem?_eq_some_iff.1 (h1.trans hg')).1 ?_, h1]
  rcases ho.2 with ⟨rfl, _⟩ | ⟨g', cap, cur, rfl, _, hh, _⟩
  · simp [Value.ownBlock]
  · simp only [Value.ownBlock, ne_eq, Option.some.injEq]
    rintro rfl
    have h2 := (h1.trans hg').symm.trans hh
    cases h2
theorem FrmH.mk_ {P : Program} {k : TypeId} {κ : Type} {K : KeyT P k κ} {m : Nat} {f : κ → Option Value} (h : FrmH B T w w') (hm : MK K w m f) : MK K w' m f := by
  obtain ⟨es, clock, l, hb, r⟩ := hm
  exact ⟨es, clock, l, (h.maps m es clock hb).trans hb, r⟩
end
section
variable {B hb : Nat} {l : List HEnt} {came : Int}
theorem HeapAt.below {w w' : World} (h : HeapAt w B hb l came) (hw : Below w.heap.size w w') : HeapAt w' B hb l came := by
  obtain ⟨v, h1, h2, h3⟩ := h
  refine ⟨v, h1, h2.below hw h2.lt, ?_⟩
  obtain ⟨h4, h5⟩ := h3
  refine ⟨h4, ?_⟩
  rcases h5 with h5 | ⟨g, cap, cur, e1, e2, e3, e4⟩
  · exact .inl h5
  · exact .inr ⟨g, cap, cur, e1, e2, (hw.block g (Array.getElem?_eq_some_iff.1 e3).1).trans e3, e4⟩
set_option maxRecDepth 100000 in
theorem none_any (w : World) (h : HeapAt w B hb l came) : Calls Try.prog 105 #[.pointer (some ⟨hb, 0, none⟩)] w fun e w' => e = .returned (.bool false) ∧ w = w' := by
  obtain ⟨v, _, h2, _⟩ := h
  have c0 := h2.cell 0
  clear h2
  go_enter Try.func105, Try.ntmps105
  have hq : ∀ w : World, (binOp .eql 117 (.func (.func 69) #[] #[]) .nilFunc).run Try.prog w = .ok (.bool false) w := fun _ => by kernel_rfl
  go_wp2
  go_ret
  exact ⟨rfl, rfl⟩
set_option maxRecDepth 100000 in
set_option maxHeartbeats 800000 in
theorem ahead_any (w : World) (i k : Nat) (h : HeapAt w B hb l came) (hi : i < l.length) (hk : k < l.length) (hl : l.length ≤ 10000000) :
    Calls Try.prog 106 #[.pointer (some ⟨hb, 0, none⟩), .int .i64 i, .int .i64 k] w fun e w' => e = .returned (.bool (aheadH (atH l i) (atH l k))) ∧ Below w.heap.size w w' := by
  obtain ⟨v, h1, h2, h3⟩ := h
  obtain ⟨g, cap, rfl, hg⟩ := h3.form (by omega)
  have c0 := h2.cell 0
  have c1 := h2.cell 1
  have hlt := h2.lt
  have hgl := (h3.lt g rfl).2
  obtain ⟨p1, p2⟩ := entVals_at l i hi
  obtain ⟨q1, q2⟩ := entVals_at l k hk
  have ci := h3.cellAt (i * 2) (by omega)
  have ci1 := h3.cellAt (i * 2 + 1) (by omega)
  have ck := h3.cellAt (k * 2) (by omega)
  have ck1 := h3.cellAt (k * 2 + 1) (by omega)
  rw [p1] at ci
  rw [p2] at ci1
  rw [q1] at ck
  rw [q2] at ck1
  obtain ⟨x, hx⟩ : ∃ x, atH l i = x := ⟨_, rfl⟩
  obtain ⟨y, hy⟩ : ∃ y, atH l k = y := ⟨_, rfl⟩
  rw [hx] at ci ci1 ⊢
  rw [hy] at ck ck1 ⊢
  obtain ⟨n, hn⟩ : ∃ n, l.length = n := ⟨_, rfl⟩
  rw [hn] at hi hk hl c1
  clear h2 h3 hx hy p1 p2 q1 q2 hn
  have hiI : (i : Int) < n := by omega
  have hkI : (k : Int) < n := by omega
  obtain ⟨d1, hd1⟩ : ∃ d, decide (x.1 < y.1) = d := ⟨_, rfl⟩
  obtain ⟨d2, hd2⟩ : ∃ d, decide (y.1 < x.1) = d := ⟨_, rfl⟩
  obtain ⟨d3, hd3⟩ : ∃ d, decide (x.2 < y.2) = d := ⟨_, rfl⟩
  have hr : aheadH x y = (d1 || (!d2 && d3)) := by unfold aheadH; rw [hd1, hd2, hd3]
  rw [hr]
  have l1 := fun w' : World => less_any x.1 y.1 w'
  have l2 := fun w' : World => less_any y.1 x.1 w'
  rw [hd1] at l1
  rw [hd2] at l2
  have q2 : ∀ w' : World, Calls Try.prog 69 #[.int .i64 y.1, .int .i64 x.1] w' fun e w'' => e = .returned (.bool d2) ∧ w'' = w' := fun w' => (l2 w').mono fun e w'' h => ⟨h.1, h.2.symm⟩
  have Q2 := Lib.hid q2
  clear q2
  have L1 := Lib.hid l1
  have L2 := Lib.hid l2
  have H3 := Lib.hid hd3
  clear l1 l2 hd1 hd2 hr
  go_enter Try.func106, Try.ntmps106
  go_upto_region 1 with fail
  go_cut [7, 8] (fun s7 s8 wx => TwoAt w wx s7 s8 x y)
  case first =>
    go_region_held3 (fun w' => w'.cell? ⟨hb, 1, none⟩ = some (.slice (some ⟨g, 0, none⟩) n cap) ∧ w'.cell? ⟨g, i * 2, none⟩ = some (.int .i64 x.1) ∧ w'.cell? ⟨g, i * 2 + 1, none⟩ = some (.int .i64 x.2) ∧ w'.cell? ⟨g, k * 2, none⟩ = some (.int .i64 y.1) ∧ w'.cell? ⟨g, k * 2 + 1, none⟩ = some (.int .i64 y.2)) (first | exact ⟨c1, ci, ci1, ck, ck1⟩ | go_keep) ((first | fail))
    all_goals
      go_wp2_with fail
      go_meet
      first | exact TwoAt.one _ _ _ _ | exact TwoAt.two _ _ _ _
  case rest =>
    obtain ⟨ga, gb, rfl, rfl, hbl, a0, a1, b0, b1⟩ := hcut
    have h0 : wc.cell? ⟨hb, 0, none⟩ = some (.func (.func 69) #[] #[]) := (hbl.cell (p := ⟨hb, 0, none⟩) hlt).trans c0
    have BL := Lib.hid hbl
    clear hbl c0 c1 ci ci1 ck ck1 hg
    cases d1 with
    | true =>
      go_wp2_with fail
      go_region_held3 (fun w' => w'.cell? ⟨hb, 0, none⟩ = some (.func (.func 69) #[] #[]) ∧ w'.cell? ⟨ga, 0, none⟩ = some (.int .i64 x.1) ∧ w'.cell? ⟨gb, 0, none⟩ = some (.int .i64 y.1)) (first | exact ⟨h0, a0, b0⟩) ((first | (go_at_call 69; refine (L1.out _).mono ?_; rintro e w5 ⟨rfl, rfl⟩)))
      go_wp2_with fail
      go_ret
      exact ⟨rfl, BL.out.drew⟩
    | false =>
      go_wp2_with fail
      go_region_held3 (fun w' => w'.cell? ⟨hb, 0, none⟩ = some (.func (.func 69) #[] #[]) ∧ w'.cell? ⟨ga, 0, none⟩ = some (.int .i64 x.1) ∧ w'.cell? ⟨gb, 0, none⟩ = some (.int .i64 y.1)) (first | exact ⟨h0, a0, b0⟩) ((first | (go_at_call 69; refine (L1.out _).mono ?_; rintro e w5 ⟨rfl, rfl⟩)))
      go_wp2_with fail
      cases d2 with
      | true =>
        have e0 : wc.drew.cell? ⟨hb, 0, none⟩ = some (.func (.func 69) #[] #[]) := h0
        have e1 : wc.drew.cell? ⟨ga, 0, none⟩ = some (.int .i64 x.1) := a0
        have e2 : wc.drew.cell? ⟨gb, 0, none⟩ = some (.int .i64 y.1) := b0
        have BL2 := Lib.hid BL.out.drew
        clear h0 a0 a1 b0 b1 BL
        generalize wc.drew = w2 at *
        go_quiet ((exact Calls.quiet_of_same (Q2.out _)))
        go_wp2_with fail
        go_ret
        exact ⟨rfl, below_drewNs BL2.out _⟩
      | false =>
        go_region_held3 (fun w' => w'.cell? ⟨hb, 0, none⟩ = some (.func (.func 69) #[] #[]) ∧ w'.cell? ⟨ga, 0, none⟩ = some (.int .i64 x.1) ∧ w'.cell? ⟨gb, 0, none⟩ = some (.int .i64 y.1) ∧ w'.cell? ⟨ga, 1, none⟩ = some (.int .i64 x.2) ∧ w'.cell? ⟨gb, 1, none⟩ = some (.int .i64 y.2)) (first | exact ⟨h0, a0, b0, a1, b1⟩) ((first | (go_at_call 69; refine (L2.out _).mono ?_; rintro e w5 ⟨rfl, rfl⟩)))
        go_wp2_with fail
        go_ret
        exact ⟨by simp, BL.out.drew.drew⟩
end
end Go.Proofs.Ytggibiodeecljaa
