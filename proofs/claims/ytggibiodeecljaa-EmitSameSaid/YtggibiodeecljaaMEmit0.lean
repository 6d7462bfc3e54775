/- emit's maker in memory; its op. emit's maker: wide, number, push, ahead, and the functions that ahead answers. -/
import Derived.Test.YtggibiodeecljaaMEmitM
import Derived.Test.YtggibiodeecljaaMStmt0
import Derived.Test.YtggibiodeecljaaMBase
import Derived.Laws.AppendOwnNone
namespace Go.Proofs.Ytggibiodeecljaa
open Go.RowKit
set_option linter.unusedVariables false

theorem own_otherE {w w' : World} {B B' s1 s2 n1 n2 : Nat} {e1 e2 : TypeId} {v1 v2 : Value} {x1 x2 : List Value} (h1 : w.ownsRow B e1 s1 v1 n1 x1) (h2 : w.ownsRow B' e2 s2 v2 n2 x2) (hne : e2 ≠ e1) (hg : w.grownBy w' v2.ownBlock) : w'.ownsRow B e1 s1 v1 n1 x1 := by
  refine h1.kept hg ?_
  rcases h1.2 with ⟨rfl, _⟩ | ⟨g', cp, cu, rfl, _, hh, _⟩
  · exact .inl rfl
  · right
    intro e
    exact own_blk_ne h2 (g := g') (t := e1) (cs := cu) hh hne e.symm
theorem info_u8e : (Try.prog.info? 5).map (fun i => (i.zero, i.size, i.bytes)) = some (some (.int .u8 0), 1, 1) := by kernel_rfl
theorem u8_el : ElT Try.prog 32 5 1 1 := ⟨Try.underlying32, by decide, by
  obtain ⟨i0, hi, hz0, hz1, hz2⟩ := info_parts info_u8e
  exact ⟨i0, _, hi, hz0, hz1, hz2, rfl⟩⟩
theorem info_fn : (Try.prog.info? 1).map (fun i => (i.zero, i.size, i.bytes)) = some (some .nilFunc, 1, 8) := by kernel_rfl
theorem fn_el : ElT Try.prog 138 1 1 8 := ⟨Try.underlying138, by decide, by
  obtain ⟨i0, hi, hz0, hz1, hz2⟩ := info_parts info_fn
  exact ⟨i0, _, hi, hz0, hz1, hz2, rfl⟩⟩
def u8Vals (l : List Int) : List Value := l.map (Value.int .u8)

/-- A jump that waits: the function that lays it. -/
def Waits (w : World) (kb : Nat) (v : Value) (p : Nat × Nat) : Prop :=
  ∃ g1 g2 g3, v = .func (.func 134) #[] #[.pointer (some ⟨g1, 0, none⟩), .pointer (some ⟨g2, 0, none⟩), .pointer (some ⟨g3, 0, none⟩)] ∧
    Blk w g1 3 #[.int .i64 p.2] ∧ Blk w g2 135 #[.pointer (some ⟨kb, 0, none⟩)] ∧ Blk w g3 3 #[.int .i64 p.1]
/-- The maker at block kb, all that it owns from block B on. -/
def EK (w : World) (B kb : Nat) (tv im tm mb : Value) (s : MS) : Prop :=
  ∃ bv lv vals, B ≤ kb ∧ Blk w kb 140 #[tv, im, tm, bv, .bool s.bad, mb, lv] ∧ w.ownsRow B 5 1 bv s.b.length (u8Vals s.b) ∧ w.ownsRow B 1 1 lv s.later.length vals ∧
    ∀ (k : Nat) (p : Nat × Nat), s.later[k]? = some p → ∃ v, vals[k]? = some v ∧ Waits w kb v p
/-- What emission turns: the maker, bytes, rows of functions. -/
abbrev TE : List TypeId := [140, 5, 1]

section
variable {B kb : Nat} {tv im tm mb : Value} {s s' : MS} {w w' : World}
theorem Waits.frm {v : Value} {p : Nat × Nat} (h : Waits w kb v p) (hf : Frm B TE w w') : Waits w' kb v p := by
  obtain ⟨g1, g2, g3, h1, h2, h3, h4⟩ := h
  exact ⟨g1, g2, g3, h1, hf.blk h2 (by decide), hf.blk h3 (by decide), hf.blk h4 (by decide)⟩
theorem EK.size (h : EK w B kb tv im tm mb s) : B ≤ kb ∧ kb < w.heap.size := by
  obtain ⟨bv, lv, vals, h1, h2, _⟩ := h
  exact ⟨h1, h2.lt⟩
theorem EK.below (h : EK w B kb tv im tm mb s) (hb : Below w.heap.size w w') : EK w' B kb tv im tm mb s := by
  obtain ⟨bv, lv, vals, h1, h2, h3, h4, h5⟩ := h
  have f := Frm.of_below (B := 0) (T := []) hb (Nat.zero_le _)
  refine ⟨bv, lv, vals, h1, f.blk h2 (by simp), f.own h3 (by simp), f.own h4 (by simp), fun k p hk => ?_⟩
  obtain ⟨v, hv, hw⟩ := h5 k p hk
  exact ⟨v, hv, hw.frm (f.more (by simp))⟩
theorem EK.alloc (h : EK w B kb tv im tm mb s) (o : Obj) : EK (w.alloc o) B kb tv im tm mb s := h.below ((Below.refl _ _).alloc (Nat.le_refl _) o)
theorem EK.drew (h : EK w B kb tv im tm mb s) : EK w.drew B kb tv im tm mb s := h
theorem EK.cells (h : EK w B kb tv im tm mb s) : w.cell? ⟨kb, 0, none⟩ = some tv ∧ w.cell? ⟨kb, 1, none⟩ = some im ∧ w.cell? ⟨kb, 2, none⟩ = some tm ∧ w.cell? ⟨kb, 4, none⟩ = some (.bool s.bad) ∧ w.cell? ⟨kb, 5, none⟩ = some mb ∧ w.frozen? ⟨kb, 4, none⟩ = false := by
  obtain ⟨bv, lv, vals, h1, h2, _⟩ := h
  exact ⟨h2.cell 0, h2.cell 1, h2.cell 2, h2.cell 4, h2.cell 5, h2.frozen 4⟩
theorem EK.bcell (h : EK w B kb tv im tm mb s) : ∃ A c, w.cell? ⟨kb, 3, none⟩ = some (.slice A s.b.length c) := by
  obtain ⟨bv, lv, vals, h1, h2, h3, _⟩ := h
  obtain ⟨A, c, rfl⟩ := own_form h3
  exact ⟨A, c, h2.cell 3⟩
theorem EK.setBad (h : EK w B kb tv im tm mb s) (b : Bool) : EK (w.setCell ⟨kb, 4, none⟩ (.bool b)) B kb tv im tm mb { s with bad := b } ∧ Frm B TE w (w.setCell ⟨kb, 4, none⟩ (.bool b)) := by
  obtain ⟨bv, lv, vals, h1, h2, h3, h4, h5⟩ := h
  have f : Frm B TE w (w.setCell ⟨kb, 4, none⟩ (.bool b)) := (Frm.refl _ _ _).set_ h2 h1 (by decide) _
  refine ⟨⟨bv, lv, vals, h1, h2.set_ 4 _, own_setCell h3 (own_blk_ne h3 h2 (by decide)) _, own_setCell h4 (own_blk_ne h4 h2 (by decide)) _, fun k p hk => ?_⟩, f⟩
  obtain ⟨v, hv, hw⟩ := h5 k p hk
  exact ⟨v, hv, hw.frm f⟩
end

/-- The bytes that are handed over. -/
def News (w0 w : World) (XA : Option Addr) (x : List Int) (n c : Nat) : Prop :=
  (x = [] ∧ XA = none ∧ n = 0 ∧ c = 0) ∨ (n = x.length ∧ 0 < n ∧ ∃ lb, XA = some ⟨lb, 0, none⟩ ∧ w0.heap.size ≤ lb ∧ lb < w.heap.size ∧ ∀ j u, (u8Vals x)[j]? = some u → w.cell? ⟨lb, j, none⟩ = some u)
theorem News.none_ (w0 w : World) : News w0 w none [] 0 0 := .inl ⟨rfl, rfl, rfl, rfl⟩
theorem News.lit (w : World) (x : List Int) (hx : 0 < x.length) (cs : Array Value) (hc : cs = (u8Vals x).toArray) : News w (w.alloc (.cells cs 5)) (some ⟨w.heap.size, 0, none⟩) x x.length x.length :=
    .inr ⟨rfl, hx, _, rfl, Nat.le_refl _, by simp, fun j u hj => by
    rw [hc, (Blk.new w _ _).cell j, List.getElem?_toArray]
    exact hj⟩

theorem emitOp_mid0 {B kb : Nat} {w w1 : World} {cs : Array Value} {A : Option Addr} {nb bc nl : Nat} {bs vals : List Value} {lv : Value} (K2 : Blk w kb 140 cs) (O2 : w.ownsRow B 5 1 (.slice A nb bc) nb bs) (L2 : w.ownsRow B 1 1 lv nl vals) (FB : Frm B TE w w)
    (G1 : w.grownBy w1 (Value.slice A nb bc).ownBlock) (hBw : B ≤ w.heap.size) :
    Hid (Blk w1 kb 140 cs) ∧ Hid (w1.ownsRow B 1 1 lv nl vals) ∧ Hid (Frm B TE w w1) ∧ B ≤ w1.heap.size ∧ w1.cell? ⟨kb, 3, none⟩ = cs[3]? ∧ w1.frozen? ⟨kb, 3, none⟩ = false := by
  have k := K2.grown G1 (own_blk_ne O2 K2 (by decide)).symm
  exact ⟨k, own_otherE L2 O2 (by decide) G1, FB.grown O2 G1 (Nat.le_refl _) hBw (by decide), by have := G1.size; omega, k.cell 3, k.frozen 3⟩
theorem emitOp_mid2 {B kb n1 : Nat} {w1 w2 : World} {cs : Array Value} {v1 : Value} {xs : List Value} (K3 : Blk w1 kb 140 cs) (O1 : w1.ownsRow B 5 1 v1 n1 xs) (G2 : w1.grownBy w2 v1.ownBlock) :
    w2.cell? ⟨kb, 3, none⟩ = cs[3]? ∧ w2.frozen? ⟨kb, 3, none⟩ = false ∧ Hid (Blk w2 kb 140 cs) := by
  have k := K3.grown G2 (own_blk_ne O1 K3 (by decide)).symm
  exact ⟨k.cell 3, k.frozen 3, k⟩
theorem emitOp_mid {B kb : Nat} {w0 w w1 : World} {cs : Array Value} {A : Option Addr} {nb bc nl lb : Nat} {bs vals : List Value} {lv : Value} {x : List Int} (K2 : Blk w kb 140 cs) (O2 : w.ownsRow B 5 1 (.slice A nb bc) nb bs) (L2 : w.ownsRow B 1 1 lv nl vals) (FB : Frm B TE w w)
    (HOB : ∀ g, (Value.slice A nb bc).ownBlock = some g → g < w0.heap.size) (hlb : w0.heap.size ≤ lb) (hlt : lb < w.heap.size) (G1 : w.grownBy w1 (Value.slice A nb bc).ownBlock) (hBw : B ≤ w.heap.size) (HCL : ∀ (j : Nat) (u : Value), (u8Vals x)[j]? = some u → w.cell? ⟨lb, j, none⟩ = some u) :
    Blk w1 kb 140 cs ∧ Hid (w1.ownsRow B 1 1 lv nl vals) ∧ Hid (Frm B TE w w1) ∧ (∀ (j : Nat) (u : Value), (u8Vals x)[j]? = some u → w1.cell? ((⟨lb, 0, none⟩ : Addr).add j) = some u) ∧ B ≤ w1.heap.size := by
  refine ⟨K2.grown G1 (own_blk_ne O2 K2 (by decide)).symm, own_otherE L2 O2 (by decide) G1, FB.grown O2 G1 (Nat.le_refl _) hBw (by decide), ?_, by have := G1.size; omega⟩
  have hlb1 : w1.heap[lb]? = w.heap[lb]? := by
    refine G1.block lb hlt ?_
    intro e
    have := HOB lb e.symm
    omega
  intro j u hj
  rw [← HCL j u hj]
  have e : (⟨lb, 0, none⟩ : Addr).add j = ⟨lb, j, none⟩ := by unfold Addr.add; cases j <;> simp
  rw [e]
  unfold World.cell?
  rw [hlb1]

set_option maxRecDepth 100000 in
set_option maxHeartbeats 1600000 in
/-- maker.op. -/
theorem emitOp_any (B kb : Nat) (tv im tm mb : Value) (s : MS) (c : Int) (x : List Int) (XA : Option Addr) (n cp : Nat) (w0 w : World) (h : EK w0 B kb tv im tm mb s) (hb : Below w0.heap.size w0 w) (hx : News w0 w XA x n cp) (hm : s.ms + x.length ≤ 1000000) :
    Calls Try.prog 84 #[.pointer (some ⟨kb, 0, none⟩), .int .u8 c, .slice XA n cp] w fun e w' => e = .returned (.tuple #[]) ∧ EK w' B kb tv im tm mb (opE c x s) ∧ Frm B TE w w' := by
  obtain ⟨hB, hks⟩ := h.size
  obtain ⟨bv, lv, vals, _, k1, o1, l1, a1⟩ := h
  have fb : Frm B TE w0 w := Frm.of_below hb (by omega)
  have f0 := Frm.of_below (B := 0) (T := []) hb (Nat.zero_le _)
  have k2 := f0.blk k1 (by simp)
  have o2 := f0.own o1 (by simp)
  have l2 := f0.own l1 (by simp)
  have hobk : ∀ g, bv.ownBlock = some g → g < w0.heap.size := fun g hg => (o1.lt g hg).2
  have hsz := hb.size
  obtain ⟨nb, hnb⟩ : ∃ nb, s.b.length = nb := ⟨_, rfl⟩
  have hnm : nb + x.length ≤ 1000000 := by unfold MS.ms at hm; omega
  rw [hnb] at o2
  obtain ⟨A, bc, rfl⟩ := own_form o2
  have kk3 := k2.cell 3
  have kf3 := k2.frozen 3
  have hBw : B ≤ w.heap.size := by omega
  have hfin : ∀ (v2 : Value) (w2 : World), Blk w2 kb 140 #[tv, im, tm, .slice A nb bc, .bool s.bad, mb, lv] → w2.ownsRow B 5 1 v2 (nb + 1 + x.length) (u8Vals s.b ++ [Value.int .u8 c] ++ u8Vals x) → w2.ownsRow B 1 1 lv s.later.length vals → Frm B TE w w2 →
      EK (w2.setCell ⟨kb, 3, none⟩ v2) B kb tv im tm mb (opE c x s) ∧ Frm B TE w (w2.setCell ⟨kb, 3, none⟩ v2) := by
    intro v2 w2 h1 h2 h3 h4
    have f2 : Frm B TE w (w2.setCell ⟨kb, 3, none⟩ v2) := h4.set_ h1 hB (by decide) _
    refine ⟨⟨v2, lv, vals, hB, h1.set_ 3 _, ?_, own_setCell h3 (own_blk_ne h3 h1 (by decide)) _, fun k p hk => ?_⟩, f2⟩
    · have e : (opE c x s).b.length = nb + 1 + x.length := by simp [opE, hnb]; omega
      have e2 : u8Vals (opE c x s).b = u8Vals s.b ++ [Value.int .u8 c] ++ u8Vals x := by simp [opE, u8Vals]
      rw [e, e2]
      exact own_setCell h2 (own_blk_ne h2 h1 (by decide)) _
    · obtain ⟨v, hv, hw⟩ := a1 k p hk
      exact ⟨v, hv, hw.frm (fb.trans f2)⟩
  have HFIN := Lib.hid hfin
  have K2 := Lib.hid k2
  have O2 := Lib.hid o2
  have L2 := Lib.hid l2
  have FB := Lib.hid (Frm.refl B TE w)
  have HOB := Lib.hid hobk
  have HX := Lib.hid hx
  clear hfin k1 k2 o1 o2 l1 l2 a1 fb f0 hobk hx hm hnb hb
  obtain ⟨nx, hnx⟩ : ∃ nx, x.length = nx := ⟨_, rfl⟩
  rw [hnx] at hnm
  have HNX := Lib.hid hnx
  clear hnx
  rcases HX.out with ⟨hx0, rfl, rfl, rfl⟩ | ⟨hn, hn0, lb, rfl, hlb, hlt, hcell⟩
  · have hnx0 : nx = 0 := by have := HNX.out; rw [hx0] at this; simpa using this.symm
    subst hnx0
    obtain ⟨i0, z0, hi0, hz0, hsz0, hby0, hzc0⟩ := u8_el.info
    have HX0 := Lib.hid hx0
    clear hx0
    go_enter Try.func84, Try.ntmps84
    go_wp2_with (at_builtin; first | (refine wpList_append1 u8_el rfl _ _ rfl B w [.int .u8 c] rfl _ _ _ rfl O2.out rfl rfl (by simp [Value.oneCell']) (by unfold maxLen; omega) (by omega) hBw ?_; intro v1 w1 hown1 hg1; obtain ⟨A1, c1, rfl⟩ := own_form hown1; have O1 := Lib.hid hown1; have G1 := Lib.hid hg1; clear hg1; have FX := emitOp_mid0 K2.out O2.out L2.out FB.out G1.out hBw; obtain ⟨K3, L3, F3, hBw1, kk3', kf3'⟩ := FX) | (refine wpList_append_own_none rfl _ _ 32 rfl B 5 i0 1 u8_el.und hi0 _ _ _ rfl (by assumption) rfl ?_))
    go_end0
    have h := HFIN.out _ w1 K3.out (by rw [HX0.out]; simpa [u8Vals] using O1.out) L3.out F3.out
    exact ⟨rfl, h⟩
  · have hnn : n = nx := by rw [hn, HNX.out]
    subst hnn
    obtain ⟨i0, z0, hi0, hz0, hsz0, hby0, hzc0⟩ := u8_el.info
    have HCL := Lib.hid hcell
    clear hcell hn
    go_enter Try.func84, Try.ntmps84
    go_wp2_with (at_builtin; first | (refine wpList_append1 u8_el rfl _ _ rfl B w [.int .u8 c] rfl _ _ _ rfl O2.out rfl rfl (by simp [Value.oneCell']) (by unfold maxLen; omega) (by omega) hBw ?_; intro v1 w1 hown1 hg1; obtain ⟨A1, c1, rfl⟩ := own_form hown1; have O1 := Lib.hid hown1; have G1 := Lib.hid hg1; clear hg1; have FX := emitOp_mid K2.out O2.out L2.out FB.out HOB.out hlb hlt G1.out hBw HCL.out; obtain ⟨K3, L3, F3, HC1, hBw1⟩ := FX) | (refine wpList_append_own_at _ rfl _ _ 32 rfl B 5 i0 z0 1 1 u8_el.und hi0 hz0 hsz0 hby0 hzc0 (by decide) _ _ _ rfl (by assumption) ⟨lb, 0, none⟩ n cp (u8Vals x) rfl (by simp [u8Vals]; exact HNX.out) (by assumption) (by intro u hu; obtain ⟨y, _, rfl⟩ := List.mem_map.1 hu; rfl) (by unfold maxLen; omega) (by omega) (by assumption) ?_; intro v2 w2 hown2 hg2 _ _; obtain ⟨A2, c2, rfl⟩ := own_form hown2; have FY := emitOp_mid2 (by assumption) (by assumption) hg2; obtain ⟨kk4, kf4, K4⟩ := FY; have O3 := Lib.hid hown2; have G2 := Lib.hid hg2; clear hown2 hg2))
    go_end0
    have l4 := own_otherE L3.out O1.out (by decide) G2.out
    have f4 := F3.out.grown O1.out G2.out (Nat.le_refl _) hBw1 (by decide)
    have h := HFIN.out _ w2 K4.out (by rw [HNX.out]; exact O3.out) l4 f4
    exact ⟨rfl, h⟩

section
variable (B kb : Nat) (tv im tm mb : Value) (s : MS) (c : Int) (w : World) (h : EK w B kb tv im tm mb s)
include h
theorem emitOp_nil (hm : s.ms ≤ 1000000) :
    Calls Try.prog 84 #[.pointer (some ⟨kb, 0, none⟩), .int .u8 c, .slice none 0 0] w fun e w' => e = .returned (.tuple #[]) ∧ EK w' B kb tv im tm mb (opE c [] s) ∧ Frm B TE w w' :=
  emitOp_any B kb tv im tm mb s c [] none 0 0 w w h (Below.refl _ _) (News.none_ w w) hm
theorem emitOp_one (x : Int) (hm : s.ms + 1 ≤ 1000000) :
    Calls Try.prog 84 #[.pointer (some ⟨kb, 0, none⟩), .int .u8 c, .slice (some ⟨w.heap.size, 0, none⟩) 1 1] (w.alloc (.cells #[.int .u8 x] 5)) fun e w' => e = .returned (.tuple #[]) ∧ EK w' B kb tv im tm mb (opE c [x] s) ∧ Frm B TE w w' := by
  have hb : Below w.heap.size w (w.alloc (.cells #[.int .u8 x] 5)) := (Below.refl _ _).alloc (Nat.le_refl _) _
  refine (emitOp_any B kb tv im tm mb s c [x] (some ⟨w.heap.size, 0, none⟩) 1 1 w _ h hb (News.lit w [x] (by simp) #[.int .u8 x] rfl) hm).mono ?_
  rintro e w1 ⟨rfl, h1, f1⟩
  exact ⟨rfl, h1, (Frm.of_below hb (by have := h.size; omega)).trans f1⟩
theorem emitOp_two (x y : Int) (hm : s.ms + 2 ≤ 1000000) :
    Calls Try.prog 84 #[.pointer (some ⟨kb, 0, none⟩), .int .u8 c, .slice (some ⟨w.heap.size, 0, none⟩) 2 2] (w.alloc (.cells #[.int .u8 x, .int .u8 y] 5)) fun e w' => e = .returned (.tuple #[]) ∧ EK w' B kb tv im tm mb (opE c [x, y] s) ∧ Frm B TE w w' := by
  have hb : Below w.heap.size w (w.alloc (.cells #[.int .u8 x, .int .u8 y] 5)) := (Below.refl _ _).alloc (Nat.le_refl _) _
  refine (emitOp_any B kb tv im tm mb s c [x, y] (some ⟨w.heap.size, 0, none⟩) 2 2 w _ h hb (News.lit w [x, y] (by simp) #[.int .u8 x, .int .u8 y] rfl) hm).mono ?_
  rintro e w1 ⟨rfl, h1, f1⟩
  exact ⟨rfl, h1, (Frm.of_below hb (by have := h.size; omega)).trans f1⟩
end
end Go.Proofs.Ytggibiodeecljaa
namespace Go.Proofs.Ytggibiodeecljaa
open Go.RowKit
set_option linter.unusedVariables false

noncomputable def keyL : KeyT Try.prog 2 Int := intKey Try.prog 2 .i64 Try.underlying2
noncomputable def keyS : KeyT Try.prog 9 ByteArray := strKey Try.prog 9 Try.underlying9
theorem zero_i64e (w : World) : (zeroValue 3).run Try.prog w = .ok (.int .i64 0) w := by kernel_rfl
def intO (o : Option Int) : Option Value := o.map (Value.int .i64)
/-- What a pool's map says. -/
def PoolI (w : World) (B : Nat) (im : Value) (pi : Int → Option Int) : Prop := ∃ ib, im = .map (some ib) ∧ ib < B ∧ MK keyL w ib (fun n => intO (pi n))
def PoolT (w : World) (B : Nat) (tm : Value) (pt : ByteArray → Option Int) : Prop := ∃ tb, tm = .map (some tb) ∧ tb < B ∧ MK keyS w tb (fun n => intO (pt n))
theorem PoolI.below {w w' : World} {B : Nat} {im : Value} {pi : Int → Option Int} (h : PoolI w B im pi) (hb : Below B w w') : PoolI w' B im pi := by
  obtain ⟨ib, h1, h2, h3⟩ := h
  exact ⟨ib, h1, h2, h3.of_block keyL (hb.block ib h2)⟩
theorem PoolT.below {w w' : World} {B : Nat} {tm : Value} {pt : ByteArray → Option Int} (h : PoolT w B tm pt) (hb : Below B w w') : PoolT w' B tm pt := by
  obtain ⟨ib, h1, h2, h3⟩ := h
  exact ⟨ib, h1, h2, h3.of_block keyS (hb.block ib h2)⟩

section
variable (B kb : Nat) (tv im tm mb : Value) (s : MS) (w : World) (h : EK w B kb tv im tm mb s)
include h
set_option maxRecDepth 100000 in
theorem emitWide_any (c n : Int) (h0 : 0 ≤ n) (h1 : n ≤ 10000000) (hm : s.ms + 2 ≤ 1000000) :
    Calls Try.prog 165 #[.pointer (some ⟨kb, 0, none⟩), .int .u8 c, .int .i64 n] w fun e w' => e = .returned (.tuple #[]) ∧ EK w' B kb tv im tm mb (wideE c n s) ∧ Frm B TE w w' := by
  have hop := emitOp_two B kb tv im tm mb s c w h (hi8 n) (u8 n) hm
  have HOP := Lib.hid hop
  have e1 : IntKind.u8.wrap (n / 256) = hi8 n := rfl
  have e2 : IntKind.u8.wrap n = u8 n := rfl
  clear hop h
  go_enter Try.func165, Try.ntmps165
  go_wp2_with fail
  refine HOP.out.mono ?_
  rintro e w1 ⟨rfl, h2, f2⟩
  go_wp2_with fail
  go_end0
  exact ⟨rfl, h2, f2⟩

set_option maxRecDepth 100000 in
theorem emitNumber_any (pi : Int → Option Int) (n : Int) (hp : PoolI w B im pi) :
    Calls Try.prog 166 #[.pointer (some ⟨kb, 0, none⟩), .int .i64 n] w fun e w' => e = .returned (.int .i64 ((pi n).getD 0)) ∧ EK w' B kb tv im tm mb (numE (pi n) s) ∧ Frm B TE w w' := by
  obtain ⟨ib, rfl, hib, hmk⟩ := hp
  obtain ⟨c0, c1, c2, c4, c5, f4⟩ := h.cells
  have hlk := hmk.lookup keyL Try.underlying76 zero_i64e n true
  have hset := fun b => h.setBad b
  have HSET := Lib.hid hset
  have H := Lib.hid h
  cases hpn : pi n with
  | none =>
    have hl2 : (Instr.lookup 76 (.map (some ib)) (.int .i64 n) true).run Try.prog w = .ok (.tuple #[.int .i64 0, .bool false]) w := by
      have := hlk
      simp only [hpn, intO] at this
      exact this
    clear hlk hmk h hset hpn
    obtain ⟨sb, hsb⟩ : ∃ sb, s.bad = sb := ⟨_, rfl⟩
    rw [hsb] at c4
    have HSB := Lib.hid hsb
    clear hsb
    cases sb with
    | true =>
      go_enter Try.func166, Try.ntmps166
      go_wp2_with fail
      go_ret
      refine ⟨rfl, ?_, (HSET.out true).2⟩
      have := (HSET.out true).1
      have e : numE none s = { s with bad := true } := by simp [numE]
      rw [e]
      exact this
    | false =>
      go_enter Try.func166, Try.ntmps166
      go_wp2_with fail
      go_ret
      refine ⟨rfl, ?_, (HSET.out true).2⟩
      have := (HSET.out true).1
      have e : numE none s = { s with bad := true } := by simp [numE]
      rw [e]
      exact this
  | some v =>
    have hl2 : (Instr.lookup 76 (.map (some ib)) (.int .i64 n) true).run Try.prog w = .ok (.tuple #[.int .i64 v, .bool true]) w := by
      have := hlk
      simp only [hpn, intO] at this
      exact this
    clear hlk hmk h hset hpn
    obtain ⟨sb, hsb⟩ : ∃ sb, s.bad = sb := ⟨_, rfl⟩
    rw [hsb] at c4
    have HSB := Lib.hid hsb
    clear hsb
    cases sb with
    | true =>
      go_enter Try.func166, Try.ntmps166
      go_wp2_with fail
      go_ret
      refine ⟨rfl, ?_, (HSET.out true).2⟩
      have := (HSET.out true).1
      have e : numE (some v) s = { s with bad := true } := by simp [numE, HSB.out]
      rw [e]
      exact this
    | false =>
      go_enter Try.func166, Try.ntmps166
      go_wp2_with fail
      go_ret
      refine ⟨rfl, ?_, (HSET.out false).2⟩
      have := (HSET.out false).1
      have e : numE (some v) s = { s with bad := false } := by simp [numE, HSB.out]
      rw [e]
      exact this

set_option maxRecDepth 100000 in
theorem emitPush_any (pi : Int → Option Int) (n : Int) (hp : PoolI w B im pi) (hpb : ∀ n v, pi n = some v → 0 ≤ v ∧ v ≤ 10000000) (hm : s.ms + 2 ≤ 1000000) :
    Calls Try.prog 119 #[.pointer (some ⟨kb, 0, none⟩), .int .i64 n] w fun e w' => e = .returned (.tuple #[]) ∧ EK w' B kb tv im tm mb (pushE (pi n) s) ∧ Frm B TE w w' := by
  have h1 := emitNumber_any B kb tv im tm mb s w h pi n hp
  have hv : 0 ≤ (pi n).getD 0 ∧ (pi n).getD 0 ≤ 10000000 := by
    cases hpn : pi n with
    | none => simp
    | some v => exact hpb n v hpn
  have h2 := fun wx hx => emitWide_any B kb tv im tm mb (numE (pi n) s) wx hx 1 ((pi n).getD 0) hv.1 hv.2 hm
  obtain ⟨v, hvv⟩ : ∃ v, v = (pi n).getD 0 := ⟨_, rfl⟩
  rw [← hvv] at h1 h2
  have H1 := Lib.hid h1
  have H2 := Lib.hid h2
  have HV := Lib.hid hvv
  clear h1 h2 h hp hpb hv hvv
  go_enter Try.func119, Try.ntmps119
  go_wp2_with fail
  refine H1.out.mono ?_
  rintro e w1 ⟨rfl, g1, f1⟩
  have G1 := Lib.hid g1
  clear g1
  go_wp2_with fail
  refine (H2.out _ G1.out).mono ?_
  rintro e w2 ⟨rfl, g2, f2⟩
  go_wp2_with fail
  go_end0
  refine ⟨rfl, ?_, f1.trans f2⟩
  unfold pushE
  rw [← HV.out]
  exact g2
end
end Go.Proofs.Ytggibiodeecljaa
