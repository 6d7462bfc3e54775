/- emit's writers: the simple ones. emit's ahead with no byte, with two. -/
import Derived.Test.YtggibiodeecljaaMEmit3
namespace Go.Proofs.Ytggibiodeecljaa
open Go.RowKit
set_option linter.unusedVariables false

theorem kid_cell {w : World} {base g n c k j : Nat} {l : List Nat} (ho : w.ownsRow base 3 1 (.slice (some ⟨g, 0, none⟩) n c) n (intVals (l.map fun j : Nat => (j : Int)))) (hj : l[k]? = some j) : w.cell? ⟨g, k, none⟩ = some (.int .i64 j) := by
  have hlen := ho.1
  have hkl := (List.getElem?_eq_some_iff.1 hj).1
  simp only [intVals, List.length_map] at hlen
  rw [ho.cellAt k (by omega)]
  simp [intVals, hj]
theorem kid_form {w : World} {base n c k j : Nat} {A : Option Addr} {l : List Nat} (ho : w.ownsRow base 3 1 (.slice A n c) n (intVals (l.map fun j : Nat => (j : Int)))) (hj : l[k]? = some j) : l.length = n ∧ k < n ∧ ∃ g, A = some ⟨g, 0, none⟩ ∧ g < w.heap.size := by
  have hlen := ho.1
  have hkl := (List.getElem?_eq_some_iff.1 hj).1
  simp only [intVals, List.length_map, Nat.mul_one] at hlen
  obtain ⟨g, cap, e, _⟩ := ho.form (by omega)
  injection e with e1 e2 e3
  subst e1
  exact ⟨hlen, by omega, g, rfl, (ho.lt g rfl).2⟩
theorem wr_start {w0 w : World} {B kb base n c : Nat} {tv im tm mb : Value} {s : MS} {A : Option Addr} {l : List Value} (x : Node) (hb : Below B w0 w) (h : EK w B kb tv im tm mb s) (ho : w.ownsRow base 3 1 (.slice A n c) n l) :
    ∃ w1, w1 = w.alloc (.cells #[.int .i8 x.op, .int .i8 x.kind, .int .i64 x.n, .int .i64 x.m, .string x.text, .int .i64 x.pos, .int .i64 x.kids] 42) ∧ Below B w0 w1 ∧ EK w1 B kb tv im tm mb s ∧ w1.ownsRow base 3 1 (.slice A n c) n l ∧ Frm B TE w w1 ∧
      Blk w1 w.heap.size 42 #[.int .i8 x.op, .int .i8 x.kind, .int .i64 x.n, .int .i64 x.m, .string x.text, .int .i64 x.pos, .int .i64 x.kids] := by
  have hz := h.size
  refine ⟨_, rfl, hb.trans ((Below.refl _ _).alloc (by omega) _), h.alloc _, ho.alloc _, (Frm.refl _ _ _).alloc (by omega) _, Blk.new w _ _⟩
theorem kid_mem {l : List Nat} {k j : Nat} (h : l[k]? = some j) : j ∈ l := List.mem_of_getElem? h

section
variable (w0 : World) (B kb : Nat) (tv im tm mb : Value) (ts : List Node) (rec : Nat → MS → MS) (hgr : Grow rec) (i : Nat) (x : Node) (hr : ∀ j ∈ kidsOf ts i, NodeC w0 B kb tv im tm mb rec j) (hkl : (kidsOf ts i).length ≤ 100000)
include hgr hr hkl
set_option maxRecDepth 100000 in
theorem w_t1 : WriterC w0 B kb tv im tm mb ts (fun s => allE rec (kidsOf ts i) s) i x 116 #[] := by
  intro s w A n c base hb0 h0 ho0 hm
  obtain ⟨w1, hw1, hb, h, ho, f0, kn⟩ := wr_start x hb0 h0 ho0
  have HW1 := Lib.hid hw1
  have F0 := Lib.hid f0
  have nc : w1.cell? ⟨w.heap.size, 2, none⟩ = some (.int .i64 x.n) := kn.cell 2
  have KN := Lib.hid kn
  have hns := emitNodes_any w0 B kb tv im tm mb rec hgr (kidsOf ts i) A n c base s w1 hr hb h hm hkl ho
  have HNS := Lib.hid hns
  clear hw1 f0 kn hb0 h0 ho0 hns hb h ho hm hr
  go_enter Try.func116, Try.ntmps116
  go_wp2_with fail
  rw [← HW1.out]
  refine HNS.out.mono ?_
  rintro e w2 ⟨rfl, h2, f2⟩
  go_wp2_with fail
  go_end0
  exact ⟨rfl, h2, F0.out.trans f2⟩
omit hgr hr hkl in
set_option maxRecDepth 100000 in
theorem w_t2 (pi : Int → Option Int) (hp : PoolI w0 B im pi) (hpb : ∀ n v, pi n = some v → 0 ≤ v ∧ v ≤ 10000000) : WriterC w0 B kb tv im tm mb ts (fun s => pushE (pi x.n) s) i x 118 #[] := by
  intro s w A n c base hb0 h0 ho0 hm
  obtain ⟨w1, hw1, hb, h, ho, f0, kn⟩ := wr_start x hb0 h0 ho0
  have HW1 := Lib.hid hw1
  have F0 := Lib.hid f0
  have nc : w1.cell? ⟨w.heap.size, 2, none⟩ = some (.int .i64 x.n) := kn.cell 2
  have KN := Lib.hid kn
  have hns := emitPush_any B kb tv im tm mb s w1 h pi x.n (hp.below hb) hpb (by have := hm; rw [pushE_ms] at this; omega)
  have HNS := Lib.hid hns
  clear hw1 f0 kn hb0 h0 ho0 hns hb h ho hm hp hpb
  go_enter Try.func118, Try.ntmps118
  go_wp2_with fail
  rw [← HW1.out]
  refine HNS.out.mono ?_
  rintro e w2 ⟨rfl, h2, f2⟩
  go_wp2_with fail
  go_end0
  exact ⟨rfl, h2, F0.out.trans f2⟩
omit hgr hr hkl in
set_option maxRecDepth 100000 in
theorem w_t3 : WriterC w0 B kb tv im tm mb ts (fun s => opE 4 [u8 x.n] s) i x 120 #[] := by
  intro s w A n c base hb0 h0 ho0 hm
  obtain ⟨w1, hw1, hb, h, ho, f0, kn⟩ := wr_start x hb0 h0 ho0
  have HW1 := Lib.hid hw1
  have F0 := Lib.hid f0
  have nc : w1.cell? ⟨w.heap.size, 2, none⟩ = some (.int .i64 x.n) := kn.cell 2
  have KN := Lib.hid kn
  have hns := emitOp_one B kb tv im tm mb s 4 w1 h (u8 x.n) (by have := hm; rw [opE_ms] at this; simp at this; omega)
  have hz1 : w1.heap.size = w.heap.size + 1 := by rw [hw1]; simp
  rw [hz1] at hns
  have HNS := Lib.hid hns
  have e1 : IntKind.u8.wrap x.n = u8 x.n := rfl
  clear hw1 f0 kn hb0 h0 ho0 hns hb h ho hm
  go_enter Try.func120, Try.ntmps120
  go_wp2_with fail
  rw [← HW1.out]
  refine HNS.out.mono ?_
  rintro e w2 ⟨rfl, h2, f2⟩
  go_wp2_with fail
  go_end0
  exact ⟨rfl, h2, F0.out.trans f2⟩
set_option maxRecDepth 100000 in
theorem w_plain (pg : Nat) (pc : Int) (hpg : pg < B) (kp : Blk w0 pg 5 #[.int .u8 pc]) : WriterC w0 B kb tv im tm mb ts (fun s => opE pc [] (allE rec (kidsOf ts i) s)) i x 131 #[.pointer (some ⟨pg, 0, none⟩)] := by
  intro s w A n c base hb0 h0 ho0 hm
  obtain ⟨w1, hw1, hb, h, ho, f0, kn⟩ := wr_start x hb0 h0 ho0
  have HW1 := Lib.hid hw1
  have F0 := Lib.hid f0
  have nc : w1.cell? ⟨w.heap.size, 2, none⟩ = some (.int .i64 x.n) := kn.cell 2
  have KN := Lib.hid kn
  have hns := emitNodes_any w0 B kb tv im tm mb rec hgr (kidsOf ts i) A n c base s w1 hr hb h (by have := hm; rw [opE_ms] at this; omega) hkl ho
  have hop := fun wx hx => emitOp_nil B kb tv im tm mb (allE rec (kidsOf ts i) s) pc wx hx (by have := hm; rw [opE_ms] at this; omega)
  have HOP := Lib.hid hop
  have HNS := Lib.hid hns
  have KP := Lib.hid kp
  have HB := Lib.hid hb
  clear hw1 f0 kn hb0 h0 ho0 hns hop hb h ho hm hr kp
  go_enter Try.func131, Try.ntmps131
  go_wp2_with fail
  rw [← HW1.out]
  refine HNS.out.mono ?_
  rintro e w2 ⟨rfl, h2, f2⟩
  have cp : w2.cell? ⟨pg, 0, none⟩ = some (.int .u8 pc) := (KP.out.below (HB.out.trans f2.below) hpg).cell 0
  have nc2 : w2.cell? ⟨w.heap.size, 2, none⟩ = some (.int .i64 x.n) := (f2.blk KN.out (by decide)).cell 2
  have H2 := Lib.hid h2
  have F2 := Lib.hid f2
  clear h2 f2
  go_wp2_with fail
  refine (HOP.out _ H2.out).mono ?_
  rintro e w3 ⟨rfl, h3, f3⟩
  go_wp2_with fail
  go_end0
  exact ⟨rfl, h3, (F0.out.trans F2.out).trans f3⟩
set_option maxRecDepth 100000 in
theorem w_t4 : WriterC w0 B kb tv im tm mb ts (fun s => opE 46 [u8 x.n] (allE rec (kidsOf ts i) s)) i x 128 #[] := by
  intro s w A n c base hb0 h0 ho0 hm
  obtain ⟨w1, hw1, hb, h, ho, f0, kn⟩ := wr_start x hb0 h0 ho0
  have HW1 := Lib.hid hw1
  have F0 := Lib.hid f0
  have nc : w1.cell? ⟨w.heap.size, 2, none⟩ = some (.int .i64 x.n) := kn.cell 2
  have KN := Lib.hid kn
  have hns := emitNodes_any w0 B kb tv im tm mb rec hgr (kidsOf ts i) A n c base s w1 hr hb h (by have := hm; rw [opE_ms] at this; omega) hkl ho
  have hop := fun wx hx => emitOp_one B kb tv im tm mb (allE rec (kidsOf ts i) s) 46 wx hx (u8 x.n) (by have := hm; rw [opE_ms] at this; simp at this; omega)
  have HOP := Lib.hid hop
  have HNS := Lib.hid hns
  have e1 : IntKind.u8.wrap x.n = u8 x.n := rfl
  clear hw1 f0 kn hb0 h0 ho0 hns hop hb h ho hm hr
  go_enter Try.func128, Try.ntmps128
  go_wp2_with fail
  rw [← HW1.out]
  refine HNS.out.mono ?_
  rintro e w2 ⟨rfl, h2, f2⟩
  have nc2 : w2.cell? ⟨w.heap.size, 2, none⟩ = some (.int .i64 x.n) := (f2.blk KN.out (by decide)).cell 2
  have H2 := Lib.hid h2
  have F2 := Lib.hid f2
  clear h2 f2
  go_wp2_with fail
  refine (HOP.out _ H2.out).mono ?_
  rintro e w3 ⟨rfl, h3, f3⟩
  go_wp2_with fail
  go_end0
  exact ⟨rfl, h3, (F0.out.trans F2.out).trans f3⟩
set_option maxRecDepth 100000 in
theorem w_t5 : WriterC w0 B kb tv im tm mb ts (fun s => opE 60 [u8 x.n] (allE rec (kidsOf ts i) s)) i x 129 #[] := by
  intro s w A n c base hb0 h0 ho0 hm
  obtain ⟨w1, hw1, hb, h, ho, f0, kn⟩ := wr_start x hb0 h0 ho0
  have HW1 := Lib.hid hw1
  have F0 := Lib.hid f0
  have nc : w1.cell? ⟨w.heap.size, 2, none⟩ = some (.int .i64 x.n) := kn.cell 2
  have KN := Lib.hid kn
  have hns := emitNodes_any w0 B kb tv im tm mb rec hgr (kidsOf ts i) A n c base s w1 hr hb h (by have := hm; rw [opE_ms] at this; omega) hkl ho
  have hop := fun wx hx => emitOp_one B kb tv im tm mb (allE rec (kidsOf ts i) s) 60 wx hx (u8 x.n) (by have := hm; rw [opE_ms] at this; simp at this; omega)
  have HOP := Lib.hid hop
  have HNS := Lib.hid hns
  have e1 : IntKind.u8.wrap x.n = u8 x.n := rfl
  clear hw1 f0 kn hb0 h0 ho0 hns hop hb h ho hm hr
  go_enter Try.func129, Try.ntmps129
  go_wp2_with fail
  rw [← HW1.out]
  refine HNS.out.mono ?_
  rintro e w2 ⟨rfl, h2, f2⟩
  have nc2 : w2.cell? ⟨w.heap.size, 2, none⟩ = some (.int .i64 x.n) := (f2.blk KN.out (by decide)).cell 2
  have H2 := Lib.hid h2
  have F2 := Lib.hid f2
  clear h2 f2
  go_wp2_with fail
  refine (HOP.out _ H2.out).mono ?_
  rintro e w3 ⟨rfl, h3, f3⟩
  go_wp2_with fail
  go_end0
  exact ⟨rfl, h3, (F0.out.trans F2.out).trans f3⟩
set_option maxRecDepth 100000 in
theorem w_t7 : WriterC w0 B kb tv im tm mb ts (fun s => opE 5 [u8 x.n] (allE rec (kidsOf ts i) s)) i x 132 #[] := by
  intro s w A n c base hb0 h0 ho0 hm
  obtain ⟨w1, hw1, hb, h, ho, f0, kn⟩ := wr_start x hb0 h0 ho0
  have HW1 := Lib.hid hw1
  have F0 := Lib.hid f0
  have nc : w1.cell? ⟨w.heap.size, 2, none⟩ = some (.int .i64 x.n) := kn.cell 2
  have KN := Lib.hid kn
  have hns := emitNodes_any w0 B kb tv im tm mb rec hgr (kidsOf ts i) A n c base s w1 hr hb h (by have := hm; rw [opE_ms] at this; omega) hkl ho
  have hop := fun wx hx => emitOp_one B kb tv im tm mb (allE rec (kidsOf ts i) s) 5 wx hx (u8 x.n) (by have := hm; rw [opE_ms] at this; simp at this; omega)
  have HOP := Lib.hid hop
  have HNS := Lib.hid hns
  have e1 : IntKind.u8.wrap x.n = u8 x.n := rfl
  clear hw1 f0 kn hb0 h0 ho0 hns hop hb h ho hm hr
  go_enter Try.func132, Try.ntmps132
  go_wp2_with fail
  rw [← HW1.out]
  refine HNS.out.mono ?_
  rintro e w2 ⟨rfl, h2, f2⟩
  have nc2 : w2.cell? ⟨w.heap.size, 2, none⟩ = some (.int .i64 x.n) := (f2.blk KN.out (by decide)).cell 2
  have H2 := Lib.hid h2
  have F2 := Lib.hid f2
  clear h2 f2
  go_wp2_with fail
  refine (HOP.out _ H2.out).mono ?_
  rintro e w3 ⟨rfl, h3, f3⟩
  go_wp2_with fail
  go_end0
  exact ⟨rfl, h3, (F0.out.trans F2.out).trans f3⟩
end
end Go.Proofs.Ytggibiodeecljaa
namespace Go.Proofs.Ytggibiodeecljaa
open Go.RowKit
set_option linter.unusedVariables false
theorem call_ix0 (w : World) : (Instr.index 225 (.agg #[.int .u8 40, .int .u8 0, .int .u8 42, .int .u8 43, .int .u8 44, .int .u8 0, .int .u8 16, .int .u8 17, .int .u8 18]) (.int .i64 0)).run Try.prog w = .ok (.int .u8 40) w := by kernel_rfl
theorem call_ix2 (w : World) : (Instr.index 225 (.agg #[.int .u8 40, .int .u8 0, .int .u8 42, .int .u8 43, .int .u8 44, .int .u8 0, .int .u8 16, .int .u8 17, .int .u8 18]) (.int .i64 2)).run Try.prog w = .ok (.int .u8 42) w := by kernel_rfl
theorem call_ix3 (w : World) : (Instr.index 225 (.agg #[.int .u8 40, .int .u8 0, .int .u8 42, .int .u8 43, .int .u8 44, .int .u8 0, .int .u8 16, .int .u8 17, .int .u8 18]) (.int .i64 3)).run Try.prog w = .ok (.int .u8 43) w := by kernel_rfl
theorem call_ix4 (w : World) : (Instr.index 225 (.agg #[.int .u8 40, .int .u8 0, .int .u8 42, .int .u8 43, .int .u8 44, .int .u8 0, .int .u8 16, .int .u8 17, .int .u8 18]) (.int .i64 4)).run Try.prog w = .ok (.int .u8 44) w := by kernel_rfl
theorem call_ix6 (w : World) : (Instr.index 225 (.agg #[.int .u8 40, .int .u8 0, .int .u8 42, .int .u8 43, .int .u8 44, .int .u8 0, .int .u8 16, .int .u8 17, .int .u8 18]) (.int .i64 6)).run Try.prog w = .ok (.int .u8 16) w := by kernel_rfl
theorem call_ix7 (w : World) : (Instr.index 225 (.agg #[.int .u8 40, .int .u8 0, .int .u8 42, .int .u8 43, .int .u8 44, .int .u8 0, .int .u8 16, .int .u8 17, .int .u8 18]) (.int .i64 7)).run Try.prog w = .ok (.int .u8 17) w := by kernel_rfl
theorem call_ix8 (w : World) : (Instr.index 225 (.agg #[.int .u8 40, .int .u8 0, .int .u8 42, .int .u8 43, .int .u8 44, .int .u8 0, .int .u8 16, .int .u8 17, .int .u8 18]) (.int .i64 8)).run Try.prog w = .ok (.int .u8 18) w := by kernel_rfl
section
variable (B kb : Nat) (tv im tm mb : Value) (s : MS) (c : Int) (w : World) (h : EK w B kb tv im tm mb s)
include h
theorem emitAhead_nil (hm : s.ms + 0 + 2 ≤ 1000000) :
    Calls Try.prog 83 #[.pointer (some ⟨kb, 0, none⟩), .int .u8 c, .slice none 0 0] w fun e w' => ∃ v, e = .returned v ∧ Ahead w' kb v (aheadE c [] s).at_ ∧ EK w' B kb tv im tm mb (aheadE c [] s) ∧ Frm B TE w w' :=
  emitAhead_any B kb tv im tm mb s c [] none 0 0 w w h (Below.refl _ _) (World.ownsRow_nil w _ _ _) hm
theorem emitAhead_two (x y : Int) (hm : s.ms + 2 + 2 ≤ 1000000) :
    Calls Try.prog 83 #[.pointer (some ⟨kb, 0, none⟩), .int .u8 c, .slice (some ⟨w.heap.size, 0, none⟩) 2 2] (w.alloc (.cells #[.int .u8 x, .int .u8 y] 5)) fun e w' => ∃ v, e = .returned v ∧ Ahead w' kb v (aheadE c [x, y] s).at_ ∧ EK w' B kb tv im tm mb (aheadE c [x, y] s) ∧ Frm B TE w w' :=
  emitAhead_any B kb tv im tm mb s c [x, y] (some ⟨w.heap.size, 0, none⟩) 2 2 w _ h ((Below.refl _ _).alloc (Nat.le_refl _) _) (World.ownsRow_lit w #[.int .u8 x, .int .u8 y] 2 (Nat.le_refl _) (by decide) rfl) hm
end
end Go.Proofs.Ytggibiodeecljaa
