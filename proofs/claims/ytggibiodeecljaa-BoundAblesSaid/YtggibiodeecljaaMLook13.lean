/- The reference's looker: what its struct and its two lists hold; must, plain, seen. The reference's looker: seen. -/
import Derived.Test.YtggibiodeecljaaMModel
import Derived.Test.YtggibiodeecljaaMKinds
import Derived.Test.YtggibiodeecljaaMStmt0
import Derived.Laws.OwnMore
namespace Go.Proofs.Ytggibiodeecljaa
open Go.RowKit
set_option linter.unusedVariables false
structure Vr where
 slot : Int
 kind : Int
 let_ : Bool
def Vr.cells (v : Vr) : List Value := [.string ByteArray.empty, .int .i64 v.slot, .int .i8 v.kind, .bool v.let_]
def varVals (l : List Vr) : List Value := l.flatMap Vr.cells
structure RS where
 slots : List Int
 vars : List Vr
 bad : Bool
def RS.must (s : RS) (x : Bool) : RS := { s with bad := s.bad || !x }
/-- The looker at block kb, all that it owns from block B on. -/
def RK (w : World) (B kb : Nat) (tv : Value) (s : RS) : Prop :=
 ∃ sv vv, B ≤ kb ∧ Blk w kb 150 #[tv, sv, vv, .bool s.bad] ∧ w.ownsRow B 40 1 sv s.slots.length (s.slots.map (Value.int .i8)) ∧ w.ownsRow B 152 4 vv s.vars.length (varVals s.vars)
theorem RK.setBad {w : World} {B kb : Nat} {tv : Value} {s : RS} (h : RK w B kb tv s) (x : Bool) : RK (w.setCell ⟨kb, 3, none⟩ (.bool x)) B kb tv { s with bad := x } := by
 obtain ⟨sv, vv, h1, h3, h4, h5⟩ := h
 exact ⟨sv, vv, h1, h3.set_ 3 _, own_setCell h4 (own_blk_ne h4 h3 (by decide)) _, own_setCell h5 (own_blk_ne h5 h3 (by decide)) _⟩
theorem RK.size {w : World} {B kb : Nat} {tv : Value} {s : RS} (h : RK w B kb tv s) : B ≤ kb ∧ kb < w.heap.size := by
 obtain ⟨sv, vv, h1, h3, _⟩ := h
 exact ⟨h1, h3.lt⟩
theorem RK.cells {w : World} {B kb : Nat} {tv : Value} {s : RS} (h : RK w B kb tv s) : w.cell? ⟨kb, 0, none⟩ = some tv ∧ w.cell? ⟨kb, 3, none⟩ = some (.bool s.bad) ∧ w.frozen? ⟨kb, 3, none⟩ = false := by
 obtain ⟨sv, vv, h1, h3, _⟩ := h
 exact ⟨h3.cell 0, h3.cell 3, h3.frozen 3⟩
theorem RK.alloc {w : World} {B kb : Nat} {tv : Value} {s : RS} (h : RK w B kb tv s) (o : Obj) : RK (w.alloc o) B kb tv s := by
 obtain ⟨sv, vv, h1, h3, h4, h5⟩ := h
 exact ⟨sv, vv, h1, h3.alloc o, h4.alloc o, h5.alloc o⟩
theorem RK.drew {w : World} {B kb : Nat} {tv : Value} {s : RS} (h : RK w B kb tv s) : RK w.drew B kb tv s := h
theorem RK.below {w w' : World} {B kb : Nat} {tv : Value} {s : RS} (h : RK w B kb tv s) (hb : Below w.heap.size w w') : RK w' B kb tv s := by
 obtain ⟨sv, vv, h1, h3, h4, h5⟩ := h
 have f := Frm.of_below (B := 0) (T := []) hb (Nat.zero_le _)
 exact ⟨sv, vv, h1, f.blk h3 (by simp), f.own h4 (by simp), f.own h5 (by simp)⟩
theorem RK.frm {w : World} {B kb : Nat} {tv : Value} {s : RS} (h : RK w B kb tv s) (i : Nat) (u : Value) : Frm B [150] w (w.setCell ⟨kb, i, none⟩ u) := by
 obtain ⟨sv, vv, h1, h3, _⟩ := h
 exact (Frm.refl _ _ _).set_ h3 h1 (by simp) u
theorem RK.same {w : World} {B kb : Nat} {tv : Value} {s s' : RS} (h : RK w B kb tv s) (e : s = s') : RK w B kb tv s' := e ▸ h
theorem must13_any (B kb : Nat) (tv : Value) (s : RS) (x : Bool) (w : World) (h : RK w B kb tv s) :
  Calls Try.prog 137 #[.pointer (some ⟨kb, 0, none⟩), .bool x] w fun e w' => e = .returned (.tuple #[]) ∧ RK w' B kb tv (s.must x) ∧ Frm B [150] w w' := by
 obtain ⟨c0, c3, f3⟩ := h.cells
 have hset := h.setBad true
 have hfr := h.frm 3 (.bool true)
 have HS := Lh hset
 have HF := Lh hfr
 have H := Lh h
 clear h hset hfr
 cases x with
 | true =>
  go_enter Try.func137, Try.ntmps137
  go_wp2
  go_end0
  exact ⟨rfl, H.out.same (by cases s; simp [RS.must]), Frm.refl _ _ _⟩
 | false =>
  go_enter Try.func137, Try.ntmps137
  go_wp2
  go_end0
  exact ⟨rfl, HS.out.same (by cases s; simp [RS.must]), HF.out⟩
theorem RS.must_must (s : RS) (a b : Bool) : (s.must a).must b = s.must (a && b) := by
 cases s; cases a <;> cases b <;> simp [RS.must]
theorem RS.must_true (s : RS) : s.must true = s := by cases s; simp [RS.must]
section
variable (B kb tb toff cap : Nat) (ts : List Node) (s : RS) (i : Nat) (x : Node) (kind n m : Int) (w : World) (h : RK w B kb (.slice (some ⟨tb, toff, none⟩) ts.length cap) s) (hx : ts[i]? = some x) (hn : NodesAt w tb toff ts)
include h hx hn
set_option maxRecDepth 100000 in
set_option maxHeartbeats 2000000 in
theorem plain13_any (hlt : ts.length ≤ 100000) :
  Calls Try.prog 138 #[.pointer (some ⟨kb, 0, none⟩), .int .i64 i, .int .i8 kind, .int .i64 n, .int .i64 m] w fun e w' => e = .returned (.tuple #[]) ∧ RK w' B kb (.slice (some ⟨tb, toff, none⟩) ts.length cap) (s.must (likeB x kind n m)) ∧ Frm B [150] w w' := by
 have hi : i < ts.length := (List.getElem?_eq_some_iff.1 hx).1
 obtain ⟨len, hlen⟩ : ∃ len, ts.length = len := ⟨_, rfl⟩
 obtain ⟨c0, c1, c2, c3, c4, c5, c6⟩ := hn.all hx
 obtain ⟨k0, k3, kf⟩ := h.cells
 obtain ⟨hB, hks⟩ := h.size
 rw [hlen] at h hi hlt k0 ⊢
 have hiI : (i : Int) < len := by omega
 obtain ⟨xo, xk, xn, xm, xt, xp, xq⟩ := x
 simp only at c0 c1 c2 c3 c4 c5 c6
 obtain ⟨a, ha⟩ : ∃ a, a = (xk == kind && xn == n && xm == m && decide (0 ≤ xp)) := ⟨_, rfl⟩
 have hlike : likeB ⟨xo, xk, xn, xm, xt, xp, xq⟩ kind n m = (a && (xt.toList.isEmpty || xo == 52)) := by unfold likeB; simp only; rw [ha]
 rw [hlike]
 have hm := fun (s : RS) x wx hx => must13_any B kb (.slice (some ⟨tb, toff, none⟩) len cap) s x wx hx
 have H := Lh h
 have HM := Lh hm
 have HA := Lh ha
 clear h hm ha hlike hx hn hlen
 have hxb := fun wx => Blk.new wx 42 #[.int .i8 xo, .int .i8 xk, .int .i64 xn, .int .i64 xm, .string xt, .int .i64 xp, .int .i64 xq]
 have HXB := Lh hxb
 clear hxb
 go_enter Try.func138, Try.ntmps138
 by_cases q1 : xk = kind
 ·subst q1
  by_cases q2 : xn = n
  ·subst q2
   by_cases q3 : xm = m
   ·subst q3
    by_cases q4 : 0 ≤ xp
    ·have e1 : (xk == xk) = true := by simp
     have e2 : (xn == xn) = true := by simp
     have e3 : (xm == xm) = true := by simp
     have e4 : decide (0 ≤ xp) = true := by simp [q4]
     have hav : a = true := by rw [HA.out, e1, e2, e3, e4]; rfl
     subst hav
     go_wp2_with fail
     refine (HM.out s true _ (H.out.alloc _)).mono ?_
     rintro e w1 ⟨rfl, h1, f1⟩
     have x1 := f1.blk (HXB.out w) (by decide)
     have y0 := x1.cell 0
     have y4 := x1.cell 4
     have H1 := Lh h1
     have F1 := Lh (((Frm.refl B [150] w).alloc (by omega) _).trans f1)
     clear h1 f1 x1
     by_cases q : xo = 52
     ·subst q
      go_wp2_with fail
      go_end0
      refine ⟨rfl, H1.out.same ?_, F1.out⟩
      simp
     ·have sq : (xo == 52) = false := by simp [q]
      go_wp2_with fail
      refine (HM.out (s.must _) xt.toList.isEmpty _ H1.out).mono ?_
      rintro e w2 ⟨rfl, h2, f2⟩
      go_wp2_with fail
      go_end0
      refine ⟨rfl, h2.same ?_, F1.out.trans f2⟩
      rw [RS.must_must, sq, Bool.or_false]
    ·have e1 : (xk == xk) = true := by simp
     have e2 : (xn == xn) = true := by simp
     have e3 : (xm == xm) = true := by simp
     have e4 : decide (0 ≤ xp) = false := by simp [q4]
     have hav : a = false := by rw [HA.out, e1, e2, e3, e4]; rfl
     subst hav
     go_wp2_with fail
     refine (HM.out s false _ (H.out.alloc _)).mono ?_
     rintro e w1 ⟨rfl, h1, f1⟩
     have x1 := f1.blk (HXB.out w) (by decide)
     have y0 := x1.cell 0
     have y4 := x1.cell 4
     have H1 := Lh h1
     have F1 := Lh (((Frm.refl B [150] w).alloc (by omega) _).trans f1)
     clear h1 f1 x1
     by_cases q : xo = 52
     ·subst q
      go_wp2_with fail
      go_end0
      refine ⟨rfl, H1.out.same ?_, F1.out⟩
      simp
     ·have sq : (xo == 52) = false := by simp [q]
      go_wp2_with fail
      refine (HM.out (s.must _) xt.toList.isEmpty _ H1.out).mono ?_
      rintro e w2 ⟨rfl, h2, f2⟩
      go_wp2_with fail
      go_end0
      refine ⟨rfl, h2.same ?_, F1.out.trans f2⟩
      rw [RS.must_must, sq, Bool.or_false]
   ·have e1 : (xk == xk) = true := by simp
    have e2 : (xn == xn) = true := by simp
    have e3 : (xm == m) = false := by simp [q3]
    have hav : a = false := by rw [HA.out, e1, e2, e3]; rfl
    subst hav
    go_wp2_with fail
    refine (HM.out s false _ (H.out.alloc _)).mono ?_
    rintro e w1 ⟨rfl, h1, f1⟩
    have x1 := f1.blk (HXB.out w) (by decide)
    have y0 := x1.cell 0
    have y4 := x1.cell 4
    have H1 := Lh h1
    have F1 := Lh (((Frm.refl B [150] w).alloc (by omega) _).trans f1)
    clear h1 f1 x1
    by_cases q : xo = 52
    ·subst q
     go_wp2_with fail
     go_end0
     refine ⟨rfl, H1.out.same ?_, F1.out⟩
     simp
    ·have sq : (xo == 52) = false := by simp [q]
     go_wp2_with fail
     refine (HM.out (s.must _) xt.toList.isEmpty _ H1.out).mono ?_
     rintro e w2 ⟨rfl, h2, f2⟩
     go_wp2_with fail
     go_end0
     refine ⟨rfl, h2.same ?_, F1.out.trans f2⟩
     rw [RS.must_must, sq, Bool.or_false]
  ·have e1 : (xk == xk) = true := by simp
   have e2 : (xn == n) = false := by simp [q2]
   have hav : a = false := by rw [HA.out, e1, e2]; rfl
   subst hav
   go_wp2_with fail
   refine (HM.out s false _ (H.out.alloc _)).mono ?_
   rintro e w1 ⟨rfl, h1, f1⟩
   have x1 := f1.blk (HXB.out w) (by decide)
   have y0 := x1.cell 0
   have y4 := x1.cell 4
   have H1 := Lh h1
   have F1 := Lh (((Frm.refl B [150] w).alloc (by omega) _).trans f1)
   clear h1 f1 x1
   by_cases q : xo = 52
   ·subst q
    go_wp2_with fail
    go_end0
    refine ⟨rfl, H1.out.same ?_, F1.out⟩
    simp
   ·have sq : (xo == 52) = false := by simp [q]
    go_wp2_with fail
    refine (HM.out (s.must _) xt.toList.isEmpty _ H1.out).mono ?_
    rintro e w2 ⟨rfl, h2, f2⟩
    go_wp2_with fail
    go_end0
    refine ⟨rfl, h2.same ?_, F1.out.trans f2⟩
    rw [RS.must_must, sq, Bool.or_false]
 ·have e1 : (xk == kind) = false := by simp [q1]
  have hav : a = false := by rw [HA.out, e1]; rfl
  subst hav
  go_wp2_with fail
  refine (HM.out s false _ (H.out.alloc _)).mono ?_
  rintro e w1 ⟨rfl, h1, f1⟩
  have x1 := f1.blk (HXB.out w) (by decide)
  have y0 := x1.cell 0
  have y4 := x1.cell 4
  have H1 := Lh h1
  have F1 := Lh (((Frm.refl B [150] w).alloc (by omega) _).trans f1)
  clear h1 f1 x1
  by_cases q : xo = 52
  ·subst q
   go_wp2_with fail
   go_end0
   refine ⟨rfl, H1.out.same ?_, F1.out⟩
   simp
  ·have sq : (xo == 52) = false := by simp [q]
   go_wp2_with fail
   refine (HM.out (s.must _) xt.toList.isEmpty _ H1.out).mono ?_
   rintro e w2 ⟨rfl, h2, f2⟩
   go_wp2_with fail
   go_end0
   refine ⟨rfl, h2.same ?_, F1.out.trans f2⟩
   rw [RS.must_must, sq, Bool.or_false]
end
end Go.Proofs.Ytggibiodeecljaa
namespace Go.Proofs.Ytggibiodeecljaa
open Go.RowKit
set_option linter.unusedVariables false
def findV : List Vr → Int → Option Vr
 | [], _ => none
 | v :: r, n => if v.slot = n then some v else findV r n
def varV : Option Vr → Value
 | none => .agg #[.string ByteArray.empty, .int .i64 0, .int .i8 0, .bool false]
 | some v => .agg v.cells.toArray
theorem varVals_at : ∀ (l : List Vr) (i j : Nat) (v : Vr) (u : Value), l[i]? = some v → v.cells[j]? = some u → (varVals l)[i * 4 + j]? = some u
 | [], i, j, v, u, h, _ => by simp at h
 | v0 :: r, 0, j, v, u, h, hu => by
  simp only [List.getElem?_cons_zero, Option.some.injEq] at h
  subst h
  have hj := (List.getElem?_eq_some_iff.1 hu).1
  rw [show varVals (v0 :: r) = v0.cells ++ varVals r by simp [varVals], Nat.zero_mul, Nat.zero_add, List.getElem?_append_left hj]
  exact hu
 | v0 :: r, i + 1, j, v, u, h, hu => by
  have := varVals_at r i j v u (by simpa using h) hu
  rw [show varVals (v0 :: r) = v0.cells ++ varVals r by simp [varVals], List.getElem?_append_right (by simp [Vr.cells]; omega)]
  rw [← this]
  congr 1
  simp [Vr.cells]
  omega
theorem varVals_len (l : List Vr) : (varVals l).length = l.length * 4 := by
 induction l with
 | nil => rfl
 | cons v r ih => rw [show varVals (v :: r) = v.cells ++ varVals r by simp [varVals], List.length_append, ih]; simp [Vr.cells]; omega
set_option maxRecDepth 100000 in
set_option maxHeartbeats 2000000 in
theorem seen13_any (B kb : Nat) (tv : Value) (s : RS) (n : Int) (w : World) (h : RK w B kb tv s) (hl : s.vars.length ≤ 100000) :
  Calls Try.prog 169 #[.pointer (some ⟨kb, 0, none⟩), .int .i64 n] w fun e w' => e = .returned (.tuple #[varV (findV s.vars n), .bool (findV s.vars n).isSome]) ∧ RK w' B kb tv s ∧ Below w.heap.size w w' := by
 have hR := h
 obtain ⟨sv, vv, h1, h3, h4, h5⟩ := h
 obtain ⟨m, hm⟩ : ∃ m, s.vars.length = m := ⟨_, rfl⟩
 obtain ⟨F, hF⟩ : ∃ F, F = findV s.vars n := ⟨_, rfl⟩
 rw [← hF]
 rw [hm] at h5 hl
 obtain ⟨A2, c2, rfl⟩ := own_form h5
 have k2 := h3.cell 2
 have hks := h3.lt
 have hcells : ∀ i v, s.vars[i]? = some v → ∃ g, A2 = some ⟨g, 0, none⟩ ∧ g < w.heap.size ∧ w.cell? ⟨g, i * 4, none⟩ = some (.string ByteArray.empty) ∧ w.cell? ⟨g, i * 4 + 1, none⟩ = some (.int .i64 v.slot) ∧ w.cell? ⟨g, i * 4 + 2, none⟩ = some (.int .i8 v.kind) ∧ w.cell? ⟨g, i * 4 + 3, none⟩ = some (.bool v.let_) := by
  intro i v hv
  have hi := (List.getElem?_eq_some_iff.1 hv).1
  rcases h5.2 with ⟨e, e2⟩ | ⟨g, cap, cur, e, _⟩
  ·omega
  ·injection e with e _ _
   subst e
   have hlt := (h5.lt g rfl).2
   have hc : ∀ j u, v.cells[j]? = some u → w.cell? ⟨g, i * 4 + j, none⟩ = some u := fun j u hu => by
    have hj := (List.getElem?_eq_some_iff.1 hu).1
    rw [h5.cellAt (i * 4 + j) (by simp [Vr.cells] at hj; omega)]
    exact varVals_at s.vars i j v u hv hu
   exact ⟨g, rfl, hlt, hc 0 _ rfl, hc 1 _ rfl, hc 2 _ rfl, hc 3 _ rfl⟩
 have HR := Lh hR
 have HC := Lh hcells
 have HF := Lh hF
 have HM := Lh hm
 clear hR hcells hF hm h3 h4 h5
 go_enter Try.func169, Try.ntmps169
 go_wp2_with fail
 go_loop [6] (fun iv => ∃ j : Nat, j ≤ m ∧ iv = .int .i64 j ∧ Hid (F = findV (s.vars.drop j) n)) (fun iv => m - (intOf iv).toNat)
 case atStart => exact ⟨0, by omega, rfl, by rw [List.drop_zero]; exact HF.out⟩
 case round =>
  obtain ⟨j, hj, rfl, H⟩ := hrel
  by_cases hlt : j < m
  ·obtain ⟨v, hv⟩ : ∃ v, s.vars[j]? = some v := ⟨_, List.getElem?_eq_getElem (by rw [HM.out]; exact hlt)⟩
   obtain ⟨g, rfl, hg, c0, c1, c2', c3⟩ := HC.out j v hv
   have hdrop : s.vars.drop j = v :: s.vars.drop (j + 1) := by
    obtain ⟨h2, h3⟩ := List.getElem?_eq_some_iff.1 hv
    rw [List.drop_eq_getElem_cons h2, h3]
   have hH := H.out
   rw [hdrop, findV] at hH
   clear hv hdrop
   obtain ⟨vs, vk, vl⟩ := v
   simp only at c1 c2' c3 hH
   by_cases he : vs = n
   ·subst he
    rw [if_pos rfl] at hH
    have HH := Lh hH
    clear hH
    go_wp2_with fail
    exact bodyPost_ret (v := .tuple #[.agg #[.string ByteArray.empty, .int .i64 vs, .int .i8 vk, .bool vl], .bool true]) (by simp [results, Try.results169, go_sem]) rfl ⟨by rw [HH.out]; rfl, HR.out.alloc _, (Below.refl _ _).alloc (Nat.le_refl _) _⟩
   ·rw [if_neg he] at hH
    have HH := Lh hH
    have s1 : (vs == n) = false := by simp [he]
    clear hH
    go_wp2_with fail
    go_round
    case rel => exact ⟨j + 1, by omega, by go_num, HH.out⟩
    case measure => (simp [intOf]; try omega)
  ·have hfin : F = none := by rw [H.out, List.drop_of_length_le (by rw [HM.out]; omega)]; rfl
   have HFN := Lh hfin
   clear hfin
   go_wp2_with fail
   exact bodyPost_ret (v := .tuple #[.agg #[.string ByteArray.empty, .int .i64 0, .int .i8 0, .bool false], .bool false]) (by simp [results, Try.results169, go_sem]; try rfl) rfl ⟨by rw [HFN.out]; rfl, HR.out.alloc _, (Below.refl _ _).alloc (Nat.le_refl _) _⟩
end Go.Proofs.Ytggibiodeecljaa
