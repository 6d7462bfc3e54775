/- code.Read. code.Read, of kind 0. code.Read, of kind 1. code.Read, of kind 2. code.Read, of kind 3. code.Read, of kind 0, at the end of the room. code.Read of any bytes. -/
import Derived.Test.YtggibiodeecljaaMCode
namespace Go.Proofs.Ytggibiodeecljaa
open Go.RowKit
set_option linter.unusedVariables false
structure Ins where
 at_ : Int
 op : Int
 a : Int
 b : Int
 c : Int
def ins0 : Ins := ⟨0, 0, 0, 0, 0⟩
def Ins.cells (x : Ins) : Array Value := #[.int .i64 x.at_, .int .u8 x.op, .int .i64 x.a, .int .i64 x.b, .int .i64 x.c]
def opA (k : Int) (l : List Int) (i : Nat) : Int := if k = 1 then l.getD (i + 1) 0 else if k = 2 then l.getD (i + 1) 0 * 256 + l.getD (i + 2) 0 else if k = 3 then l.getD (i + 1) 0 else 0
def opB (k : Int) (l : List Int) (i : Nat) : Int := if k = 3 then l.getD (i + 2) 0 else 0
def opC (k : Int) (l : List Int) (i : Nat) : Int := if k = 3 then l.getD (i + 3) 0 * 256 + l.getD (i + 4) 0 else 0
def readM (l : List Int) (at_ : Int) : Ins × Int :=
 if at_ < 0 ∨ (l.length : Int) ≤ at_ then (ins0, 1)
 else match formOf (l.getD at_.toNat 0) with
  | none => (ins0, 40)
  | some p => if (l.length : Int) - at_ - 1 < sizeK p.2 then (ins0, 41)
   else (⟨at_, l.getD at_.toNat 0, opA p.2 l at_.toNat, opB p.2 l at_.toNat, opC p.2 l at_.toNat⟩, 0)
/-- A list of bytes that came in. -/
structure BytesAt (w : World) (A : Option Addr) (l : List Int) : Prop where
 byte : ∀ x ∈ l, 0 ≤ x ∧ x ≤ 255
 at_ : ∀ k x, l[k]? = some x → ∃ b off, A = some ⟨b, off, none⟩ ∧ b < w.heap.size ∧ w.cell? ⟨b, off + k, none⟩ = some (.int .u8 x)
theorem BytesAt.below {w w' : World} {A : Option Addr} {l : List Int} (h : BytesAt w A l) (hb : Below w.heap.size w w') : BytesAt w' A l :=
 ⟨h.byte, fun k x hk => by
  obtain ⟨b, off, h1, h2, h3⟩ := h.at_ k x hk
  exact ⟨b, off, h1, Nat.lt_of_lt_of_le h2 hb.size, (hb.cell (p := ⟨b, _, none⟩) h2).trans h3⟩⟩
theorem run_slice_from {t e : TypeId} {P : Program} (ht : P.underlying t = some (.slice e)) {inf : TypeInfo} (hi : P.info? e = some inf) (hsz : inf.size = 1) (b off n cap k : Nat) (z : Int) (hz : z = k) (h : k ≤ n) (hnc : n ≤ cap) (hk : k < cap) (w : World) :
  (Instr.sliceAt t (.slice (some ⟨b, off, none⟩) n cap) (some (.int .i64 z)) none none).run P w = .ok (.slice (some ⟨b, off + k, none⟩) (n - k) (cap - k)) w := by
 subst hz
 have h1 : ¬ (cap = k) := by omega
 have h2 : (0 : Int) ≤ k ∧ (k : Int) ≤ n := by omega
 unfold Instr.sliceAt
 rw [Sem.run_bind, run_underlying ht, Result.andThen_ok]
 simp only
 unfold Instr.slice
 rw [Sem.run_bind, run_underlying ht, Result.andThen_ok]
 simp only
 have hb : (Instr.sliceBounds true n cap (some (.int .i64 (k : Int))) none none).run P w = .ok (k, n, cap) w := by
  simp [Instr.sliceBounds, Instr.sliceBound, Go.asIntOf, h2]
  exact fun hlt => absurd hlt (by omega)
 have hs : (Go.sizeOf e).run P w = .ok 1 w := by
  simp [Go.sizeOf, Go.typeInfo, Go.program, Sem.run, hi, hsz]
 rw [Sem.run_bind, hb, Result.andThen_ok]
 simp only
 rw [Sem.run_bind, hs, Result.andThen_ok]
 have h3 : ¬ cap - k = cap ∨ k = 0 := by omega
 simp [Sem.run_pure, Addr.add, h1]
theorem run_slice_end {t e : TypeId} {P : Program} (ht : P.underlying t = some (.slice e)) {inf : TypeInfo} (hi : P.info? e = some inf) (A : Option Addr) (n cap k : Nat) (z : Int) (hz : z = k) (h : k ≤ n) (hk : cap = k) (w : World) :
  (Instr.sliceAt t (.slice A n cap) (some (.int .i64 z)) none none).run P w = .ok (.slice A (n - k) 0) w := by
 subst hz
 subst hk
 have h2 : (0 : Int) ≤ cap ∧ (cap : Int) ≤ n := by omega
 unfold Instr.sliceAt
 rw [Sem.run_bind, run_underlying ht, Result.andThen_ok]
 simp only
 unfold Instr.slice
 rw [Sem.run_bind, run_underlying ht, Result.andThen_ok]
 simp only
 have hb : (Instr.sliceBounds true n cap (some (.int .i64 (cap : Int))) none none).run P w = .ok (cap, n, cap) w := by
  simp [Instr.sliceBounds, Instr.sliceBound, Go.asIntOf, h2]
  exact fun hlt => absurd hlt (by omega)
 have hs : (Go.sizeOf e).run P w = .ok inf.size w := by
  simp [Go.sizeOf, Go.typeInfo, Go.program, Sem.run, hi]
 rw [Sem.run_bind, hb, Result.andThen_ok]
 simp only
 rw [Sem.run_bind, hs, Result.andThen_ok]
 simp [Sem.run_pure]
theorem infoU8 : (Try.prog.info? 5).map (fun i => i.size) = some 1 := by kernel_rfl
set_option maxRecDepth 100000 in
set_option maxHeartbeats 1000000 in
theorem read_out (A : Option Addr) (n cap : Nat) (at_ : Int) (w : World) (hn : n ≤ 1000000) (h : at_ < 0 ∨ (0 ≤ at_ ∧ (n : Int) ≤ at_)) :
  Calls Try.prog 94 #[.slice A n cap, .int .i64 at_] w fun e w' => e = .returned (.tuple #[.agg ins0.cells, .int .i64 1]) ∧ Below w.heap.size w w' := by
 rcases h with h | ⟨h, h2⟩
 ·go_enter Try.func94, Try.ntmps94
  go_wp2_with fail
  exact bodyPost_ret (v := .tuple #[.agg ins0.cells, .int .i64 1]) (by simp [results, Try.results94, go_sem, Ins.cells, ins0]) rfl ⟨rfl, (Below.refl _ _).alloc (Nat.le_refl _) _⟩
 ·have h3 : ¬ at_ < 0 := by omega
  have h4 : decide ((n : Int) ≤ at_) = true := decide_eq_true h2
  clear h
  go_enter Try.func94, Try.ntmps94
  go_wp2_with fail
  exact bodyPost_ret (v := .tuple #[.agg ins0.cells, .int .i64 1]) (by simp [results, Try.results94, go_sem, Ins.cells, ins0]) rfl ⟨rfl, (Below.refl _ _).alloc (Nat.le_refl _) _⟩
set_option maxRecDepth 100000 in
set_option maxHeartbeats 1000000 in
theorem read_noform (b off n cap i : Nat) (x : Int) (w : World) (hn : n ≤ 1000000) (hi : i < n) (hb : b < w.heap.size) (hc : w.cell? ⟨b, off + i, none⟩ = some (.int .u8 x)) (hx : formOf x = none) :
  Calls Try.prog 94 #[.slice (some ⟨b, off, none⟩) n cap, .int .i64 i] w fun e w' => e = .returned (.tuple #[.agg ins0.cells, .int .i64 40]) ∧ Below w.heap.size w w' := by
 have hiI : (i : Int) < n := by omega
 have HX := Lh hx
 have hneb : b ≠ w.heap.size := by omega
 have hr0 := Blk.new w 101 #[.int .i64 0, .int .u8 0, .int .i64 0, .int .i64 0, .int .i64 0]
 have HR0 := Lh hr0
 clear hx hr0
 go_enter Try.func94, Try.ntmps94
 go_wp2_with fail
 refine (of_none x _ HX.out).mono ?_
 rintro e w1 ⟨rfl, hb1⟩
 have hr1 := HR0.out.below hb1 (by simp)
 have hz1 := hb1.size
 simp only [World.size_alloc] at hz1
 have hlt1 : w.heap.size < w1.heap.size := by omega
 have hne1 : w.heap.size ≠ w1.heap.size := by omega
 have y0 := hr1.cell 0
 have y1 := hr1.cell 1
 have y2 := hr1.cell 2
 have y3 := hr1.cell 3
 have y4 := hr1.cell 4
 have z0 := hr1.frozen 0
 have z1 := hr1.frozen 1
 have z2 := hr1.frozen 2
 have z3 := hr1.frozen 3
 have z4 := hr1.frozen 4
 have HB := Lh (((Below.refl w.heap.size w).alloc (Nat.le_refl _) _).trans (hb1.mono (by simp)))
 clear hb1 hr1
 go_wp2_with fail
 exact bodyPost_ret (v := .tuple #[.agg ins0.cells, .int .i64 40]) (by simp [results, Try.results94, go_sem, Ins.cells, ins0, *]) rfl ⟨rfl, (((((HB.out.setCell (Nat.le_refl _) _).setCell (Nat.le_refl _) _).setCell (Nat.le_refl _) _).setCell (Nat.le_refl _) _).setCell (Nat.le_refl _) _).alloc (by simp [World.setCell]; omega) _⟩
set_option maxRecDepth 100000 in
set_option maxHeartbeats 1000000 in
theorem read_cut1 (b off n cap i : Nat) (x : Int) (nm : ByteArray) (w : World) (hn : n ≤ 1000000) (hnc : n ≤ cap) (hi : i < n) (hb : b < w.heap.size) (hc : w.cell? ⟨b, off + i, none⟩ = some (.int .u8 x)) (hx : formOf x = some (nm, 1)) (hs : (n : Int) - i - 1 < 1) :
  Calls Try.prog 94 #[.slice (some ⟨b, off, none⟩) n cap, .int .i64 i] w fun e w' => e = .returned (.tuple #[.agg ins0.cells, .int .i64 41]) ∧ Below w.heap.size w w' := by
 have hiI : (i : Int) < n := by omega
 have HX := Lh hx
 have hneb : b ≠ w.heap.size := by omega
 have hr0 := Blk.new w 101 #[.int .i64 0, .int .u8 0, .int .i64 0, .int .i64 0, .int .i64 0]
 have HR0 := Lh hr0
 clear hx hr0
 go_enter Try.func94, Try.ntmps94
 go_wp2_with fail
 refine (of_some1 x nm _ HX.out).mono ?_
 rintro e w1 ⟨rfl, hb1⟩
 have hrd : readerF 1 = .func (Fn.func 173) #[] #[] := rfl
 rw [hrd]
 have hr1 := HR0.out.below hb1 (by simp)
 have hz1 := hb1.size
 simp only [World.size_alloc] at hz1
 have hlt1 : w.heap.size < w1.heap.size := by omega
 have hne1 : w.heap.size ≠ w1.heap.size := by omega
 have hbl : b < w1.heap.size := by omega
 have hbne : b ≠ w1.heap.size := by omega
 have hbne2 : b ≠ w1.heap.size + 1 := by omega
 have y0 := hr1.cell 0
 have y1 := hr1.cell 1
 have y2 := hr1.cell 2
 have y3 := hr1.cell 3
 have y4 := hr1.cell 4
 have z0 := hr1.frozen 0
 have z1 := hr1.frozen 1
 have z2 := hr1.frozen 2
 have z3 := hr1.frozen 3
 have z4 := hr1.frozen 4
 have HB0 := Below.alloc (Below.refl w.heap.size w) (Nat.le_refl _) (.cells #[.int .i64 0, .int .u8 0, .int .i64 0, .int .i64 0, .int .i64 0] 101)
 have HB := Lh (HB0.trans (hb1.mono (by simp)))
 have hc1 : w1.cell? ⟨b, off + i, none⟩ = some (.int .u8 x) := (HB.out.cell (p := ⟨b, _, none⟩) hb).trans hc
 have HBC := Lh (fun k (v : Value) (h : w.cell? ⟨b, off + k, none⟩ = some v) => (HB.out.cell (p := ⟨b, _, none⟩) hb).trans h)
 clear hb1 hr1 hrd HB0
 go_wp2_with fail
 refine (size_any 1 _).mono ?_
 rintro e w2 ⟨rfl, rfl⟩
 have hsz : sizeK 1 = 1 := rfl
 rw [hsz]
 go_wp2_with fail
 exact bodyPost_ret (v := .tuple #[.agg ins0.cells, .int .i64 41]) (by simp [results, Try.results94, go_sem, Ins.cells, ins0, *]) rfl ⟨rfl, (((((HB.out.setCell (Nat.le_refl _) _).setCell (Nat.le_refl _) _).setCell (Nat.le_refl _) _).setCell (Nat.le_refl _) _).setCell (Nat.le_refl _) _).alloc (by simp [World.setCell]; omega) _⟩
set_option maxRecDepth 100000 in
set_option maxHeartbeats 1000000 in
theorem read_cut2 (b off n cap i : Nat) (x : Int) (nm : ByteArray) (w : World) (hn : n ≤ 1000000) (hnc : n ≤ cap) (hi : i < n) (hb : b < w.heap.size) (hc : w.cell? ⟨b, off + i, none⟩ = some (.int .u8 x)) (hx : formOf x = some (nm, 2)) (hs : (n : Int) - i - 1 < 2) :
  Calls Try.prog 94 #[.slice (some ⟨b, off, none⟩) n cap, .int .i64 i] w fun e w' => e = .returned (.tuple #[.agg ins0.cells, .int .i64 41]) ∧ Below w.heap.size w w' := by
 have hiI : (i : Int) < n := by omega
 have HX := Lh hx
 have hneb : b ≠ w.heap.size := by omega
 have hr0 := Blk.new w 101 #[.int .i64 0, .int .u8 0, .int .i64 0, .int .i64 0, .int .i64 0]
 have HR0 := Lh hr0
 clear hx hr0
 go_enter Try.func94, Try.ntmps94
 go_wp2_with fail
 refine (of_some2 x nm _ HX.out).mono ?_
 rintro e w1 ⟨rfl, hb1⟩
 have hrd : readerF 2 = .func (Fn.func 174) #[] #[] := rfl
 rw [hrd]
 have hr1 := HR0.out.below hb1 (by simp)
 have hz1 := hb1.size
 simp only [World.size_alloc] at hz1
 have hlt1 : w.heap.size < w1.heap.size := by omega
 have hne1 : w.heap.size ≠ w1.heap.size := by omega
 have hbl : b < w1.heap.size := by omega
 have hbne : b ≠ w1.heap.size := by omega
 have hbne2 : b ≠ w1.heap.size + 1 := by omega
 have y0 := hr1.cell 0
 have y1 := hr1.cell 1
 have y2 := hr1.cell 2
 have y3 := hr1.cell 3
 have y4 := hr1.cell 4
 have z0 := hr1.frozen 0
 have z1 := hr1.frozen 1
 have z2 := hr1.frozen 2
 have z3 := hr1.frozen 3
 have z4 := hr1.frozen 4
 have HB0 := Below.alloc (Below.refl w.heap.size w) (Nat.le_refl _) (.cells #[.int .i64 0, .int .u8 0, .int .i64 0, .int .i64 0, .int .i64 0] 101)
 have HB := Lh (HB0.trans (hb1.mono (by simp)))
 have hc1 : w1.cell? ⟨b, off + i, none⟩ = some (.int .u8 x) := (HB.out.cell (p := ⟨b, _, none⟩) hb).trans hc
 have HBC := Lh (fun k (v : Value) (h : w.cell? ⟨b, off + k, none⟩ = some v) => (HB.out.cell (p := ⟨b, _, none⟩) hb).trans h)
 clear hb1 hr1 hrd HB0
 go_wp2_with fail
 refine (size_any 2 _).mono ?_
 rintro e w2 ⟨rfl, rfl⟩
 have hsz : sizeK 2 = 2 := rfl
 rw [hsz]
 go_wp2_with fail
 exact bodyPost_ret (v := .tuple #[.agg ins0.cells, .int .i64 41]) (by simp [results, Try.results94, go_sem, Ins.cells, ins0, *]) rfl ⟨rfl, (((((HB.out.setCell (Nat.le_refl _) _).setCell (Nat.le_refl _) _).setCell (Nat.le_refl _) _).setCell (Nat.le_refl _) _).setCell (Nat.le_refl _) _).alloc (by simp [World.setCell]; omega) _⟩
set_option maxRecDepth 100000 in
set_option maxHeartbeats 1000000 in
theorem read_cut3 (b off n cap i : Nat) (x : Int) (nm : ByteArray) (w : World) (hn : n ≤ 1000000) (hnc : n ≤ cap) (hi : i < n) (hb : b < w.heap.size) (hc : w.cell? ⟨b, off + i, none⟩ = some (.int .u8 x)) (hx : formOf x = some (nm, 3)) (hs : (n : Int) - i - 1 < 4) :
  Calls Try.prog 94 #[.slice (some ⟨b, off, none⟩) n cap, .int .i64 i] w fun e w' => e = .returned (.tuple #[.agg ins0.cells, .int .i64 41]) ∧ Below w.heap.size w w' := by
 have hiI : (i : Int) < n := by omega
 have HX := Lh hx
 have hneb : b ≠ w.heap.size := by omega
 have hr0 := Blk.new w 101 #[.int .i64 0, .int .u8 0, .int .i64 0, .int .i64 0, .int .i64 0]
 have HR0 := Lh hr0
 clear hx hr0
 go_enter Try.func94, Try.ntmps94
 go_wp2_with fail
 refine (of_some3 x nm _ HX.out).mono ?_
 rintro e w1 ⟨rfl, hb1⟩
 have hrd : readerF 3 = .func (Fn.func 176) #[] #[] := rfl
 rw [hrd]
 have hr1 := HR0.out.below hb1 (by simp)
 have hz1 := hb1.size
 simp only [World.size_alloc] at hz1
 have hlt1 : w.heap.size < w1.heap.size := by omega
 have hne1 : w.heap.size ≠ w1.heap.size := by omega
 have hbl : b < w1.heap.size := by omega
 have hbne : b ≠ w1.heap.size := by omega
 have hbne2 : b ≠ w1.heap.size + 1 := by omega
 have y0 := hr1.cell 0
 have y1 := hr1.cell 1
 have y2 := hr1.cell 2
 have y3 := hr1.cell 3
 have y4 := hr1.cell 4
 have z0 := hr1.frozen 0
 have z1 := hr1.frozen 1
 have z2 := hr1.frozen 2
 have z3 := hr1.frozen 3
 have z4 := hr1.frozen 4
 have HB0 := Below.alloc (Below.refl w.heap.size w) (Nat.le_refl _) (.cells #[.int .i64 0, .int .u8 0, .int .i64 0, .int .i64 0, .int .i64 0] 101)
 have HB := Lh (HB0.trans (hb1.mono (by simp)))
 have hc1 : w1.cell? ⟨b, off + i, none⟩ = some (.int .u8 x) := (HB.out.cell (p := ⟨b, _, none⟩) hb).trans hc
 have HBC := Lh (fun k (v : Value) (h : w.cell? ⟨b, off + k, none⟩ = some v) => (HB.out.cell (p := ⟨b, _, none⟩) hb).trans h)
 clear hb1 hr1 hrd HB0
 go_wp2_with fail
 refine (size_any 3 _).mono ?_
 rintro e w2 ⟨rfl, rfl⟩
 have hsz : sizeK 3 = 4 := rfl
 rw [hsz]
 go_wp2_with fail
 exact bodyPost_ret (v := .tuple #[.agg ins0.cells, .int .i64 41]) (by simp [results, Try.results94, go_sem, Ins.cells, ins0, *]) rfl ⟨rfl, (((((HB.out.setCell (Nat.le_refl _) _).setCell (Nat.le_refl _) _).setCell (Nat.le_refl _) _).setCell (Nat.le_refl _) _).setCell (Nat.le_refl _) _).alloc (by simp [World.setCell]; omega) _⟩
end Go.Proofs.Ytggibiodeecljaa
namespace Go.Proofs.Ytggibiodeecljaa
open Go.RowKit
set_option linter.unusedVariables false
set_option maxRecDepth 100000 in
set_option maxHeartbeats 1000000 in
theorem read_yes0 (b off n cap i : Nat) (x : Int) (nm : ByteArray) (w : World) (hn : n ≤ 1000000) (hnc : n ≤ cap) (hi : i < n) (hb : b < w.heap.size) (hc : w.cell? ⟨b, off + i, none⟩ = some (.int .u8 x)) (hx : formOf x = some (nm, 0)) (hcap : i + 1 < cap) :
  Calls Try.prog 94 #[.slice (some ⟨b, off, none⟩) n cap, .int .i64 i] w fun e w' => e = .returned (.tuple #[.agg (Ins.cells ⟨i, x, 0, 0, 0⟩), .int .i64 0]) ∧ Below w.heap.size w w' := by
 have hiI : (i : Int) < n := by omega
 have HX := Lh hx
 have hneb : b ≠ w.heap.size := by omega
 have hr0 := Blk.new w 101 #[.int .i64 0, .int .u8 0, .int .i64 0, .int .i64 0, .int .i64 0]
 have HR0 := Lh hr0
 clear hx hr0
 go_enter Try.func94, Try.ntmps94
 go_wp2_with fail
 refine (of_some0 x nm _ HX.out).mono ?_
 rintro e w1 ⟨rfl, hb1⟩
 have hrd : readerF 0 = .func (Fn.func 172) #[] #[] := rfl
 rw [hrd]
 have hr1 := HR0.out.below hb1 (by simp)
 have hz1 := hb1.size
 simp only [World.size_alloc] at hz1
 have hlt1 : w.heap.size < w1.heap.size := by omega
 have hne1 : w.heap.size ≠ w1.heap.size := by omega
 have hbl : b < w1.heap.size := by omega
 have hbne : b ≠ w1.heap.size := by omega
 have hbne2 : b ≠ w1.heap.size + 1 := by omega
 have y0 := hr1.cell 0
 have y1 := hr1.cell 1
 have y2 := hr1.cell 2
 have y3 := hr1.cell 3
 have y4 := hr1.cell 4
 have z0 := hr1.frozen 0
 have z1 := hr1.frozen 1
 have z2 := hr1.frozen 2
 have z3 := hr1.frozen 3
 have z4 := hr1.frozen 4
 have HB0 := Below.alloc (Below.refl w.heap.size w) (Nat.le_refl _) (.cells #[.int .i64 0, .int .u8 0, .int .i64 0, .int .i64 0, .int .i64 0] 101)
 have HB := Lh (HB0.trans (hb1.mono (by simp)))
 have hc1 : w1.cell? ⟨b, off + i, none⟩ = some (.int .u8 x) := (HB.out.cell (p := ⟨b, _, none⟩) hb).trans hc
 have HBC := Lh (fun k (v : Value) (h : w.cell? ⟨b, off + k, none⟩ = some v) => (HB.out.cell (p := ⟨b, _, none⟩) hb).trans h)
 have HR1 := Lh hr1
 clear hb1 hr1 hrd HB0
 go_wp2_with fail
 refine (size_any 0 _).mono ?_
 rintro e w2 ⟨rfl, rfl⟩
 have hsz : sizeK 0 = 0 := rfl
 rw [hsz]
 have hB2 := ((((Below.refl w1.heap.size w1).alloc (Nat.le_refl _) (.cells #[.string nm, .int .i64 0, (.func (Fn.func 172) #[] #[])] 192)).alloc (by simp) (.cells #[.int .i64 i, .int .u8 x, .int .i64 0, .int .i64 0, .int .i64 0] 101)).drew)
 obtain ⟨inf, hinf, hsz1⟩ : ∃ inf, Try.prog.info? 5 = some inf ∧ inf.size = 1 := by
  have := infoU8
  rw [Option.map_eq_some_iff] at this
  exact this
 have hwi : IntKind.i64.wrap ((i : Int) + 1) = (i : Int) + 1 := by rw [IntKind.wrap_i64]; (try unfold wrap64); omega
 have hsl := fun wx => run_slice_from (P := Try.prog) Try.underlying32 hinf hsz1 b off n cap (i + 1) ((i : Int) + 1) (by omega) (by omega) hnc (by omega) wx
 have hfb := ((Blk.new w1 192 #[.string nm, .int .i64 0, (.func (Fn.func 172) #[] #[])]).alloc (.cells #[.int .i64 i, .int .u8 x, .int .i64 0, .int .i64 0, .int .i64 0] 101)).cell 2
 go_wp2_with fail
 go_region_held3 (fun w' => w'.cell? ⟨w1.heap.size, 2, none⟩ = some (.func (Fn.func 172) #[] #[])) (first | exact hfb | go_keep) ((first | (go_at_call 172; refine (read0_any _ _).mono ?_; rintro e w5 ⟨rfl, rfl⟩)))
 all_goals go_wp2_with fail
 have b3 := ((((HB.out.setCell (p := ⟨w.heap.size, 0, none⟩) (Nat.le_refl _) (.int .i64 i)).setCell (p := ⟨w.heap.size, 1, none⟩) (Nat.le_refl _) (.int .u8 x)).setCell (p := ⟨w.heap.size, 2, none⟩) (Nat.le_refl _) (.int .i64 (0))).setCell (p := ⟨w.heap.size, 3, none⟩) (Nat.le_refl _) (.int .i64 0)).setCell (p := ⟨w.heap.size, 4, none⟩) (Nat.le_refl _) (.int .i64 0)
 have b4 := ((b3.alloc (by simp [World.setCell]; omega) (.cells #[.string nm, .int .i64 0, (.func (Fn.func 172) #[] #[])] 192)).alloc (by simp [World.setCell]; omega) (.cells #[.int .i64 i, .int .u8 x, .int .i64 (0), .int .i64 0, .int .i64 0] 101)).drew
 have r3 := ((((HR1.out.set_ 0 (.int .i64 i)).set_ 1 (.int .u8 x)).set_ 2 (.int .i64 (0))).set_ 3 (.int .i64 0)).set_ 4 (.int .i64 0)
 have r4 := ((r3.alloc (.cells #[.string nm, .int .i64 0, (.func (Fn.func 172) #[] #[])] 192)).alloc (.cells #[.int .i64 i, .int .u8 x, .int .i64 (0), .int .i64 0, .int .i64 0] 101)).drew
 have f0 := r4.cell 0
 have f1 := r4.cell 1
 have f2 := r4.cell 2
 have f3 := r4.cell 3
 have f4 := r4.cell 4
 clear r3 r4 b3 y0 y1 y2 y3 y4 z0 z1 z2 z3 z4
 exact bodyPost_ret (v := .tuple #[.agg (Ins.cells ⟨i, x, 0, 0, 0⟩), .int .i64 0]) (by simp [results, Try.results94, go_sem, Ins.cells, f0, f1, f2, f3, f4]) rfl ⟨rfl, b4⟩
end Go.Proofs.Ytggibiodeecljaa
namespace Go.Proofs.Ytggibiodeecljaa
open Go.RowKit
set_option linter.unusedVariables false
set_option maxRecDepth 100000 in
set_option maxHeartbeats 1000000 in
theorem read_yes1 (b off n cap i : Nat) (x : Int) (nm : ByteArray) (w : World) (hn : n ≤ 1000000) (hnc : n ≤ cap) (hi : i < n) (hb : b < w.heap.size) (hc : w.cell? ⟨b, off + i, none⟩ = some (.int .u8 x)) (hx : formOf x = some (nm, 1)) (hs : 1 ≤ (n : Int) - i - 1) (x1 : Int) (g10 : 0 ≤ x1) (g11 : x1 ≤ 255) (hd1 : w.cell? ⟨b, off + (i + 1), none⟩ = some (.int .u8 x1)) :
  Calls Try.prog 94 #[.slice (some ⟨b, off, none⟩) n cap, .int .i64 i] w fun e w' => e = .returned (.tuple #[.agg (Ins.cells ⟨i, x, x1, 0, 0⟩), .int .i64 0]) ∧ Below w.heap.size w w' := by
 have hiI : (i : Int) < n := by omega
 have HX := Lh hx
 have hneb : b ≠ w.heap.size := by omega
 have hr0 := Blk.new w 101 #[.int .i64 0, .int .u8 0, .int .i64 0, .int .i64 0, .int .i64 0]
 have HR0 := Lh hr0
 clear hx hr0
 go_enter Try.func94, Try.ntmps94
 go_wp2_with fail
 refine (of_some1 x nm _ HX.out).mono ?_
 rintro e w1 ⟨rfl, hb1⟩
 have hrd : readerF 1 = .func (Fn.func 173) #[] #[] := rfl
 rw [hrd]
 have hr1 := HR0.out.below hb1 (by simp)
 have hz1 := hb1.size
 simp only [World.size_alloc] at hz1
 have hlt1 : w.heap.size < w1.heap.size := by omega
 have hne1 : w.heap.size ≠ w1.heap.size := by omega
 have hbl : b < w1.heap.size := by omega
 have hbne : b ≠ w1.heap.size := by omega
 have hbne2 : b ≠ w1.heap.size + 1 := by omega
 have y0 := hr1.cell 0
 have y1 := hr1.cell 1
 have y2 := hr1.cell 2
 have y3 := hr1.cell 3
 have y4 := hr1.cell 4
 have z0 := hr1.frozen 0
 have z1 := hr1.frozen 1
 have z2 := hr1.frozen 2
 have z3 := hr1.frozen 3
 have z4 := hr1.frozen 4
 have HB0 := Below.alloc (Below.refl w.heap.size w) (Nat.le_refl _) (.cells #[.int .i64 0, .int .u8 0, .int .i64 0, .int .i64 0, .int .i64 0] 101)
 have HB := Lh (HB0.trans (hb1.mono (by simp)))
 have hc1 : w1.cell? ⟨b, off + i, none⟩ = some (.int .u8 x) := (HB.out.cell (p := ⟨b, _, none⟩) hb).trans hc
 have HBC := Lh (fun k (v : Value) (h : w.cell? ⟨b, off + k, none⟩ = some v) => (HB.out.cell (p := ⟨b, _, none⟩) hb).trans h)
 have HR1 := Lh hr1
 clear hb1 hr1 hrd HB0
 go_wp2_with fail
 refine (size_any 1 _).mono ?_
 rintro e w2 ⟨rfl, rfl⟩
 have hsz : sizeK 1 = 1 := rfl
 rw [hsz]
 have e1 : w1.cell? ⟨b, off + (i + 1), none⟩ = some (.int .u8 x1) := by
  have := HBC.out (i + 1) _ hd1
  rw [show off + (i + 1) = off + (i + 1) by omega] at this
  exact this
 have hB2 := ((((Below.refl w1.heap.size w1).alloc (Nat.le_refl _) (.cells #[.string nm, .int .i64 1, (.func (Fn.func 173) #[] #[])] 192)).alloc (by simp) (.cells #[.int .i64 i, .int .u8 x, .int .i64 0, .int .i64 0, .int .i64 0] 101)).drew)
 obtain ⟨inf, hinf, hsz1⟩ : ∃ inf, Try.prog.info? 5 = some inf ∧ inf.size = 1 := by
  have := infoU8
  rw [Option.map_eq_some_iff] at this
  exact this
 have hwi : IntKind.i64.wrap ((i : Int) + 1) = (i : Int) + 1 := by rw [IntKind.wrap_i64]; (try unfold wrap64); omega
 have hsl := fun wx => run_slice_from (P := Try.prog) Try.underlying32 hinf hsz1 b off n cap (i + 1) ((i : Int) + 1) (by omega) (by omega) hnc (by omega) wx
 have hfb := ((Blk.new w1 192 #[.string nm, .int .i64 1, (.func (Fn.func 173) #[] #[])]).alloc (.cells #[.int .i64 i, .int .u8 x, .int .i64 0, .int .i64 0, .int .i64 0] 101)).cell 2
 go_wp2_with fail
 go_region_held3 (fun w' => w'.cell? ⟨w1.heap.size, 2, none⟩ = some (.func (Fn.func 173) #[] #[])) (first | exact hfb | go_keep) ((first | (go_at_call 173; refine (read1_any b (off + (i + 1)) (n - (i + 1)) (cap - (i + 1)) x1 _ (by omega) g10 g11 ((hB2.cell (p := ⟨b, _, none⟩) hbl).trans e1)).mono ?_; rintro e w5 ⟨rfl, rfl⟩)))
 all_goals go_wp2_with fail
 have b3 := ((((HB.out.setCell (p := ⟨w.heap.size, 0, none⟩) (Nat.le_refl _) (.int .i64 i)).setCell (p := ⟨w.heap.size, 1, none⟩) (Nat.le_refl _) (.int .u8 x)).setCell (p := ⟨w.heap.size, 2, none⟩) (Nat.le_refl _) (.int .i64 (x1))).setCell (p := ⟨w.heap.size, 3, none⟩) (Nat.le_refl _) (.int .i64 0)).setCell (p := ⟨w.heap.size, 4, none⟩) (Nat.le_refl _) (.int .i64 0)
 have b4 := ((b3.alloc (by simp [World.setCell]; omega) (.cells #[.string nm, .int .i64 1, (.func (Fn.func 173) #[] #[])] 192)).alloc (by simp [World.setCell]; omega) (.cells #[.int .i64 i, .int .u8 x, .int .i64 (x1), .int .i64 0, .int .i64 0] 101)).drew
 have r3 := ((((HR1.out.set_ 0 (.int .i64 i)).set_ 1 (.int .u8 x)).set_ 2 (.int .i64 (x1))).set_ 3 (.int .i64 0)).set_ 4 (.int .i64 0)
 have r4 := ((r3.alloc (.cells #[.string nm, .int .i64 1, (.func (Fn.func 173) #[] #[])] 192)).alloc (.cells #[.int .i64 i, .int .u8 x, .int .i64 (x1), .int .i64 0, .int .i64 0] 101)).drew
 have f0 := r4.cell 0
 have f1 := r4.cell 1
 have f2 := r4.cell 2
 have f3 := r4.cell 3
 have f4 := r4.cell 4
 clear r3 r4 b3 y0 y1 y2 y3 y4 z0 z1 z2 z3 z4
 exact bodyPost_ret (v := .tuple #[.agg (Ins.cells ⟨i, x, x1, 0, 0⟩), .int .i64 0]) (by simp [results, Try.results94, go_sem, Ins.cells, f0, f1, f2, f3, f4]) rfl ⟨rfl, b4⟩
end Go.Proofs.Ytggibiodeecljaa
namespace Go.Proofs.Ytggibiodeecljaa
open Go.RowKit
set_option linter.unusedVariables false
set_option maxRecDepth 100000 in
set_option maxHeartbeats 1000000 in
theorem read_yes2 (b off n cap i : Nat) (x : Int) (nm : ByteArray) (w : World) (hn : n ≤ 1000000) (hnc : n ≤ cap) (hi : i < n) (hb : b < w.heap.size) (hc : w.cell? ⟨b, off + i, none⟩ = some (.int .u8 x)) (hx : formOf x = some (nm, 2)) (hs : 2 ≤ (n : Int) - i - 1) (x1 : Int) (g10 : 0 ≤ x1) (g11 : x1 ≤ 255) (hd1 : w.cell? ⟨b, off + (i + 1), none⟩ = some (.int .u8 x1)) (x2 : Int) (g20 : 0 ≤ x2) (g21 : x2 ≤ 255) (hd2 : w.cell? ⟨b, off + (i + 2), none⟩ = some (.int .u8 x2)) :
  Calls Try.prog 94 #[.slice (some ⟨b, off, none⟩) n cap, .int .i64 i] w fun e w' => e = .returned (.tuple #[.agg (Ins.cells ⟨i, x, x1 * 256 + x2, 0, 0⟩), .int .i64 0]) ∧ Below w.heap.size w w' := by
 have hiI : (i : Int) < n := by omega
 have HX := Lh hx
 have hneb : b ≠ w.heap.size := by omega
 have hr0 := Blk.new w 101 #[.int .i64 0, .int .u8 0, .int .i64 0, .int .i64 0, .int .i64 0]
 have HR0 := Lh hr0
 clear hx hr0
 go_enter Try.func94, Try.ntmps94
 go_wp2_with fail
 refine (of_some2 x nm _ HX.out).mono ?_
 rintro e w1 ⟨rfl, hb1⟩
 have hrd : readerF 2 = .func (Fn.func 174) #[] #[] := rfl
 rw [hrd]
 have hr1 := HR0.out.below hb1 (by simp)
 have hz1 := hb1.size
 simp only [World.size_alloc] at hz1
 have hlt1 : w.heap.size < w1.heap.size := by omega
 have hne1 : w.heap.size ≠ w1.heap.size := by omega
 have hbl : b < w1.heap.size := by omega
 have hbne : b ≠ w1.heap.size := by omega
 have hbne2 : b ≠ w1.heap.size + 1 := by omega
 have y0 := hr1.cell 0
 have y1 := hr1.cell 1
 have y2 := hr1.cell 2
 have y3 := hr1.cell 3
 have y4 := hr1.cell 4
 have z0 := hr1.frozen 0
 have z1 := hr1.frozen 1
 have z2 := hr1.frozen 2
 have z3 := hr1.frozen 3
 have z4 := hr1.frozen 4
 have HB0 := Below.alloc (Below.refl w.heap.size w) (Nat.le_refl _) (.cells #[.int .i64 0, .int .u8 0, .int .i64 0, .int .i64 0, .int .i64 0] 101)
 have HB := Lh (HB0.trans (hb1.mono (by simp)))
 have hc1 : w1.cell? ⟨b, off + i, none⟩ = some (.int .u8 x) := (HB.out.cell (p := ⟨b, _, none⟩) hb).trans hc
 have HBC := Lh (fun k (v : Value) (h : w.cell? ⟨b, off + k, none⟩ = some v) => (HB.out.cell (p := ⟨b, _, none⟩) hb).trans h)
 have HR1 := Lh hr1
 clear hb1 hr1 hrd HB0
 go_wp2_with fail
 refine (size_any 2 _).mono ?_
 rintro e w2 ⟨rfl, rfl⟩
 have hsz : sizeK 2 = 2 := rfl
 rw [hsz]
 have e1 : w1.cell? ⟨b, off + (i + 1), none⟩ = some (.int .u8 x1) := by
  have := HBC.out (i + 1) _ hd1
  rw [show off + (i + 1) = off + (i + 1) by omega] at this
  exact this
 have e2 : w1.cell? ⟨b, off + (i + 1) + 1, none⟩ = some (.int .u8 x2) := by
  have := HBC.out (i + 2) _ hd2
  rw [show off + (i + 2) = off + (i + 1) + 1 by omega] at this
  exact this
 have hB2 := ((((Below.refl w1.heap.size w1).alloc (Nat.le_refl _) (.cells #[.string nm, .int .i64 2, (.func (Fn.func 174) #[] #[])] 192)).alloc (by simp) (.cells #[.int .i64 i, .int .u8 x, .int .i64 0, .int .i64 0, .int .i64 0] 101)).drew)
 obtain ⟨inf, hinf, hsz1⟩ : ∃ inf, Try.prog.info? 5 = some inf ∧ inf.size = 1 := by
  have := infoU8
  rw [Option.map_eq_some_iff] at this
  exact this
 have hwi : IntKind.i64.wrap ((i : Int) + 1) = (i : Int) + 1 := by rw [IntKind.wrap_i64]; (try unfold wrap64); omega
 have hsl := fun wx => run_slice_from (P := Try.prog) Try.underlying32 hinf hsz1 b off n cap (i + 1) ((i : Int) + 1) (by omega) (by omega) hnc (by omega) wx
 have hfb := ((Blk.new w1 192 #[.string nm, .int .i64 2, (.func (Fn.func 174) #[] #[])]).alloc (.cells #[.int .i64 i, .int .u8 x, .int .i64 0, .int .i64 0, .int .i64 0] 101)).cell 2
 go_wp2_with fail
 go_region_held3 (fun w' => w'.cell? ⟨w1.heap.size, 2, none⟩ = some (.func (Fn.func 174) #[] #[])) (first | exact hfb | go_keep) ((first | (go_at_call 174; refine (read2_any b (off + (i + 1)) (n - (i + 1)) (cap - (i + 1)) x1 x2 _ (by omega) g10 g11 g20 g21 ((hB2.cell (p := ⟨b, _, none⟩) hbl).trans e1) ((hB2.cell (p := ⟨b, _, none⟩) hbl).trans e2)).mono ?_; rintro e w5 ⟨rfl, kd, rfl⟩)))
 all_goals go_wp2_with fail
 have hl1 : w.heap.size ≤ w1.heap.size + 1 := by omega
 have hn1 : w.heap.size ≠ w1.heap.size + 1 := by omega
 have b1 := (HB.out.alloc (by omega) (.cells #[.string nm, .int .i64 2, (.func (Fn.func 174) #[] #[])] 192)).alloc (by simp; omega) (.cells #[.int .i64 i, .int .u8 x, .int .i64 0, .int .i64 0, .int .i64 0] 101)
 have b2 := drewN_below b1 (1 + kd)
 have b3 := ((b2.setCell (p := ⟨w1.heap.size + 1, 2, none⟩) hl1 (.int .i64 (x1 * 256 + x2))).setCell (p := ⟨w1.heap.size + 1, 3, none⟩) hl1 (.int .i64 (0))).setCell (p := ⟨w1.heap.size + 1, 4, none⟩) hl1 (.int .i64 (0))
 have b4 := ((((b3.setCell (p := ⟨w.heap.size, 0, none⟩) (Nat.le_refl _) (.int .i64 i)).setCell (p := ⟨w.heap.size, 1, none⟩) (Nat.le_refl _) (.int .u8 x)).setCell (p := ⟨w.heap.size, 2, none⟩) (Nat.le_refl _) (.int .i64 (x1 * 256 + x2))).setCell (p := ⟨w.heap.size, 3, none⟩) (Nat.le_refl _) (.int .i64 (0))).setCell (p := ⟨w.heap.size, 4, none⟩) (Nat.le_refl _) (.int .i64 (0))
 have r2 := ((HR1.out.alloc (.cells #[.string nm, .int .i64 2, (.func (Fn.func 174) #[] #[])] 192)).alloc (.cells #[.int .i64 i, .int .u8 x, .int .i64 0, .int .i64 0, .int .i64 0] 101)).drewN (1 + kd)
 have r3 := ((r2.far (p := ⟨w1.heap.size + 1, 2, none⟩) hn1 (.int .i64 (x1 * 256 + x2))).far (p := ⟨w1.heap.size + 1, 3, none⟩) hn1 (.int .i64 (0))).far (p := ⟨w1.heap.size + 1, 4, none⟩) hn1 (.int .i64 (0))
 have r4 := ((((r3.set_ 0 (.int .i64 i)).set_ 1 (.int .u8 x)).set_ 2 (.int .i64 (x1 * 256 + x2))).set_ 3 (.int .i64 (0))).set_ 4 (.int .i64 (0))
 have f0 := r4.cell 0
 have f1 := r4.cell 1
 have f2 := r4.cell 2
 have f3 := r4.cell 3
 have f4 := r4.cell 4
 clear r2 r3 r4 b1 b2 b3 y0 y1 y2 y3 y4 z0 z1 z2 z3 z4
 exact bodyPost_ret (v := .tuple #[.agg (Ins.cells ⟨i, x, x1 * 256 + x2, 0, 0⟩), .int .i64 0]) (by simp [results, Try.results94, go_sem, Ins.cells, f0, f1, f2, f3, f4]) rfl ⟨rfl, b4⟩
end Go.Proofs.Ytggibiodeecljaa
namespace Go.Proofs.Ytggibiodeecljaa
open Go.RowKit
set_option linter.unusedVariables false
set_option maxRecDepth 100000 in
set_option maxHeartbeats 1000000 in
theorem read_yes3 (b off n cap i : Nat) (x : Int) (nm : ByteArray) (w : World) (hn : n ≤ 1000000) (hnc : n ≤ cap) (hi : i < n) (hb : b < w.heap.size) (hc : w.cell? ⟨b, off + i, none⟩ = some (.int .u8 x)) (hx : formOf x = some (nm, 3)) (hs : 4 ≤ (n : Int) - i - 1) (x1 : Int) (g10 : 0 ≤ x1) (g11 : x1 ≤ 255) (hd1 : w.cell? ⟨b, off + (i + 1), none⟩ = some (.int .u8 x1)) (x2 : Int) (g20 : 0 ≤ x2) (g21 : x2 ≤ 255) (hd2 : w.cell? ⟨b, off + (i + 2), none⟩ = some (.int .u8 x2)) (x3 : Int) (g30 : 0 ≤ x3) (g31 : x3 ≤ 255) (hd3 : w.cell? ⟨b, off + (i + 3), none⟩ = some (.int .u8 x3)) (x4 : Int) (g40 : 0 ≤ x4) (g41 : x4 ≤ 255) (hd4 : w.cell? ⟨b, off + (i + 4), none⟩ = some (.int .u8 x4)) :
  Calls Try.prog 94 #[.slice (some ⟨b, off, none⟩) n cap, .int .i64 i] w fun e w' => e = .returned (.tuple #[.agg (Ins.cells ⟨i, x, x1, x2, x3 * 256 + x4⟩), .int .i64 0]) ∧ Below w.heap.size w w' := by
 have hiI : (i : Int) < n := by omega
 have HX := Lh hx
 have hneb : b ≠ w.heap.size := by omega
 have hr0 := Blk.new w 101 #[.int .i64 0, .int .u8 0, .int .i64 0, .int .i64 0, .int .i64 0]
 have HR0 := Lh hr0
 clear hx hr0
 go_enter Try.func94, Try.ntmps94
 go_wp2_with fail
 refine (of_some3 x nm _ HX.out).mono ?_
 rintro e w1 ⟨rfl, hb1⟩
 have hrd : readerF 3 = .func (Fn.func 176) #[] #[] := rfl
 rw [hrd]
 have hr1 := HR0.out.below hb1 (by simp)
 have hz1 := hb1.size
 simp only [World.size_alloc] at hz1
 have hlt1 : w.heap.size < w1.heap.size := by omega
 have hne1 : w.heap.size ≠ w1.heap.size := by omega
 have hbl : b < w1.heap.size := by omega
 have hbne : b ≠ w1.heap.size := by omega
 have hbne2 : b ≠ w1.heap.size + 1 := by omega
 have y0 := hr1.cell 0
 have y1 := hr1.cell 1
 have y2 := hr1.cell 2
 have y3 := hr1.cell 3
 have y4 := hr1.cell 4
 have z0 := hr1.frozen 0
 have z1 := hr1.frozen 1
 have z2 := hr1.frozen 2
 have z3 := hr1.frozen 3
 have z4 := hr1.frozen 4
 have HB0 := Below.alloc (Below.refl w.heap.size w) (Nat.le_refl _) (.cells #[.int .i64 0, .int .u8 0, .int .i64 0, .int .i64 0, .int .i64 0] 101)
 have HB := Lh (HB0.trans (hb1.mono (by simp)))
 have hc1 : w1.cell? ⟨b, off + i, none⟩ = some (.int .u8 x) := (HB.out.cell (p := ⟨b, _, none⟩) hb).trans hc
 have HBC := Lh (fun k (v : Value) (h : w.cell? ⟨b, off + k, none⟩ = some v) => (HB.out.cell (p := ⟨b, _, none⟩) hb).trans h)
 have HR1 := Lh hr1
 clear hb1 hr1 hrd HB0
 go_wp2_with fail
 refine (size_any 3 _).mono ?_
 rintro e w2 ⟨rfl, rfl⟩
 have hsz : sizeK 3 = 4 := rfl
 rw [hsz]
 have e1 : w1.cell? ⟨b, off + (i + 1), none⟩ = some (.int .u8 x1) := by
  have := HBC.out (i + 1) _ hd1
  rw [show off + (i + 1) = off + (i + 1) by omega] at this
  exact this
 have e2 : w1.cell? ⟨b, off + (i + 1) + 1, none⟩ = some (.int .u8 x2) := by
  have := HBC.out (i + 2) _ hd2
  rw [show off + (i + 2) = off + (i + 1) + 1 by omega] at this
  exact this
 have e3 : w1.cell? ⟨b, off + (i + 1) + 2, none⟩ = some (.int .u8 x3) := by
  have := HBC.out (i + 3) _ hd3
  rw [show off + (i + 3) = off + (i + 1) + 2 by omega] at this
  exact this
 have e4 : w1.cell? ⟨b, off + (i + 1) + 3, none⟩ = some (.int .u8 x4) := by
  have := HBC.out (i + 4) _ hd4
  rw [show off + (i + 4) = off + (i + 1) + 3 by omega] at this
  exact this
 have hB2 := ((((Below.refl w1.heap.size w1).alloc (Nat.le_refl _) (.cells #[.string nm, .int .i64 3, (.func (Fn.func 176) #[] #[])] 192)).alloc (by simp) (.cells #[.int .i64 i, .int .u8 x, .int .i64 0, .int .i64 0, .int .i64 0] 101)).drew)
 obtain ⟨inf, hinf, hsz1⟩ : ∃ inf, Try.prog.info? 5 = some inf ∧ inf.size = 1 := by
  have := infoU8
  rw [Option.map_eq_some_iff] at this
  exact this
 have hwi : IntKind.i64.wrap ((i : Int) + 1) = (i : Int) + 1 := by rw [IntKind.wrap_i64]; (try unfold wrap64); omega
 have hsl := fun wx => run_slice_from (P := Try.prog) Try.underlying32 hinf hsz1 b off n cap (i + 1) ((i : Int) + 1) (by omega) (by omega) hnc (by omega) wx
 have hfb := ((Blk.new w1 192 #[.string nm, .int .i64 3, (.func (Fn.func 176) #[] #[])]).alloc (.cells #[.int .i64 i, .int .u8 x, .int .i64 0, .int .i64 0, .int .i64 0] 101)).cell 2
 go_wp2_with fail
 go_region_held3 (fun w' => w'.cell? ⟨w1.heap.size, 2, none⟩ = some (.func (Fn.func 176) #[] #[])) (first | exact hfb | go_keep) ((first | (go_at_call 176; refine (read4_any b (off + (i + 1)) (n - (i + 1)) (cap - (i + 1)) x1 x2 x3 x4 _ (by omega) (by omega) g10 g11 g20 g21 g30 g31 g40 g41 ((hB2.cell (p := ⟨b, _, none⟩) hbl).trans e1) ((hB2.cell (p := ⟨b, _, none⟩) hbl).trans e2) ((hB2.cell (p := ⟨b, _, none⟩) hbl).trans e3) ((hB2.cell (p := ⟨b, _, none⟩) hbl).trans e4)).mono ?_; rintro e w5 ⟨rfl, kd, rfl⟩)))
 all_goals go_wp2_with fail
 have hl1 : w.heap.size ≤ w1.heap.size + 1 := by omega
 have hn1 : w.heap.size ≠ w1.heap.size + 1 := by omega
 have b1 := (HB.out.alloc (by omega) (.cells #[.string nm, .int .i64 3, (.func (Fn.func 176) #[] #[])] 192)).alloc (by simp; omega) (.cells #[.int .i64 i, .int .u8 x, .int .i64 0, .int .i64 0, .int .i64 0] 101)
 have b2 := drewN_below b1 (1 + kd)
 have b3 := ((b2.setCell (p := ⟨w1.heap.size + 1, 2, none⟩) hl1 (.int .i64 (x1))).setCell (p := ⟨w1.heap.size + 1, 3, none⟩) hl1 (.int .i64 (x2))).setCell (p := ⟨w1.heap.size + 1, 4, none⟩) hl1 (.int .i64 (x3 * 256 + x4))
 have b4 := ((((b3.setCell (p := ⟨w.heap.size, 0, none⟩) (Nat.le_refl _) (.int .i64 i)).setCell (p := ⟨w.heap.size, 1, none⟩) (Nat.le_refl _) (.int .u8 x)).setCell (p := ⟨w.heap.size, 2, none⟩) (Nat.le_refl _) (.int .i64 (x1))).setCell (p := ⟨w.heap.size, 3, none⟩) (Nat.le_refl _) (.int .i64 (x2))).setCell (p := ⟨w.heap.size, 4, none⟩) (Nat.le_refl _) (.int .i64 (x3 * 256 + x4))
 have r2 := ((HR1.out.alloc (.cells #[.string nm, .int .i64 3, (.func (Fn.func 176) #[] #[])] 192)).alloc (.cells #[.int .i64 i, .int .u8 x, .int .i64 0, .int .i64 0, .int .i64 0] 101)).drewN (1 + kd)
 have r3 := ((r2.far (p := ⟨w1.heap.size + 1, 2, none⟩) hn1 (.int .i64 (x1))).far (p := ⟨w1.heap.size + 1, 3, none⟩) hn1 (.int .i64 (x2))).far (p := ⟨w1.heap.size + 1, 4, none⟩) hn1 (.int .i64 (x3 * 256 + x4))
 have r4 := ((((r3.set_ 0 (.int .i64 i)).set_ 1 (.int .u8 x)).set_ 2 (.int .i64 (x1))).set_ 3 (.int .i64 (x2))).set_ 4 (.int .i64 (x3 * 256 + x4))
 have f0 := r4.cell 0
 have f1 := r4.cell 1
 have f2 := r4.cell 2
 have f3 := r4.cell 3
 have f4 := r4.cell 4
 clear r2 r3 r4 b1 b2 b3 y0 y1 y2 y3 y4 z0 z1 z2 z3 z4
 exact bodyPost_ret (v := .tuple #[.agg (Ins.cells ⟨i, x, x1, x2, x3 * 256 + x4⟩), .int .i64 0]) (by simp [results, Try.results94, go_sem, Ins.cells, f0, f1, f2, f3, f4]) rfl ⟨rfl, b4⟩
end Go.Proofs.Ytggibiodeecljaa
namespace Go.Proofs.Ytggibiodeecljaa
open Go.RowKit
set_option linter.unusedVariables false
set_option maxRecDepth 100000 in
set_option maxHeartbeats 1000000 in
theorem read_yes4 (b off n cap i : Nat) (x : Int) (nm : ByteArray) (w : World) (hn : n ≤ 1000000) (hnc : n ≤ cap) (hi : i < n) (hb : b < w.heap.size) (hc : w.cell? ⟨b, off + i, none⟩ = some (.int .u8 x)) (hx : formOf x = some (nm, 0)) (hcap : cap = i + 1) :
  Calls Try.prog 94 #[.slice (some ⟨b, off, none⟩) n cap, .int .i64 i] w fun e w' => e = .returned (.tuple #[.agg (Ins.cells ⟨i, x, 0, 0, 0⟩), .int .i64 0]) ∧ Below w.heap.size w w' := by
 subst hcap
 have hiI : (i : Int) < n := by omega
 have HX := Lh hx
 have hneb : b ≠ w.heap.size := by omega
 have hr0 := Blk.new w 101 #[.int .i64 0, .int .u8 0, .int .i64 0, .int .i64 0, .int .i64 0]
 have HR0 := Lh hr0
 clear hx hr0
 go_enter Try.func94, Try.ntmps94
 go_wp2_with fail
 refine (of_some0 x nm _ HX.out).mono ?_
 rintro e w1 ⟨rfl, hb1⟩
 have hrd : readerF 0 = .func (Fn.func 172) #[] #[] := rfl
 rw [hrd]
 have hr1 := HR0.out.below hb1 (by simp)
 have hz1 := hb1.size
 simp only [World.size_alloc] at hz1
 have hlt1 : w.heap.size < w1.heap.size := by omega
 have hne1 : w.heap.size ≠ w1.heap.size := by omega
 have hbl : b < w1.heap.size := by omega
 have hbne : b ≠ w1.heap.size := by omega
 have hbne2 : b ≠ w1.heap.size + 1 := by omega
 have y0 := hr1.cell 0
 have y1 := hr1.cell 1
 have y2 := hr1.cell 2
 have y3 := hr1.cell 3
 have y4 := hr1.cell 4
 have z0 := hr1.frozen 0
 have z1 := hr1.frozen 1
 have z2 := hr1.frozen 2
 have z3 := hr1.frozen 3
 have z4 := hr1.frozen 4
 have HB0 := Below.alloc (Below.refl w.heap.size w) (Nat.le_refl _) (.cells #[.int .i64 0, .int .u8 0, .int .i64 0, .int .i64 0, .int .i64 0] 101)
 have HB := Lh (HB0.trans (hb1.mono (by simp)))
 have hc1 : w1.cell? ⟨b, off + i, none⟩ = some (.int .u8 x) := (HB.out.cell (p := ⟨b, _, none⟩) hb).trans hc
 have HBC := Lh (fun k (v : Value) (h : w.cell? ⟨b, off + k, none⟩ = some v) => (HB.out.cell (p := ⟨b, _, none⟩) hb).trans h)
 have HR1 := Lh hr1
 clear hb1 hr1 hrd HB0
 go_wp2_with fail
 refine (size_any 0 _).mono ?_
 rintro e w2 ⟨rfl, rfl⟩
 have hsz : sizeK 0 = 0 := rfl
 rw [hsz]
 have hB2 := ((((Below.refl w1.heap.size w1).alloc (Nat.le_refl _) (.cells #[.string nm, .int .i64 0, (.func (Fn.func 172) #[] #[])] 192)).alloc (by simp) (.cells #[.int .i64 i, .int .u8 x, .int .i64 0, .int .i64 0, .int .i64 0] 101)).drew)
 obtain ⟨inf, hinf, hsz1⟩ : ∃ inf, Try.prog.info? 5 = some inf ∧ inf.size = 1 := by
  have := infoU8
  rw [Option.map_eq_some_iff] at this
  exact this
 have hwi : IntKind.i64.wrap ((i : Int) + 1) = (i : Int) + 1 := by rw [IntKind.wrap_i64]; (try unfold wrap64); omega
 have hsl := fun wx => run_slice_end (P := Try.prog) Try.underlying32 hinf (some ⟨b, off, none⟩) n (i + 1) (i + 1) ((i : Int) + 1) (by omega) (by omega) rfl wx
 have hfb := ((Blk.new w1 192 #[.string nm, .int .i64 0, (.func (Fn.func 172) #[] #[])]).alloc (.cells #[.int .i64 i, .int .u8 x, .int .i64 0, .int .i64 0, .int .i64 0] 101)).cell 2
 go_wp2_with fail
 go_region_held3 (fun w' => w'.cell? ⟨w1.heap.size, 2, none⟩ = some (.func (Fn.func 172) #[] #[])) (first | exact hfb | go_keep) ((first | (go_at_call 172; refine (read0_any _ _).mono ?_; rintro e w5 ⟨rfl, rfl⟩)))
 all_goals go_wp2_with fail
 have b3 := ((((HB.out.setCell (p := ⟨w.heap.size, 0, none⟩) (Nat.le_refl _) (.int .i64 i)).setCell (p := ⟨w.heap.size, 1, none⟩) (Nat.le_refl _) (.int .u8 x)).setCell (p := ⟨w.heap.size, 2, none⟩) (Nat.le_refl _) (.int .i64 (0))).setCell (p := ⟨w.heap.size, 3, none⟩) (Nat.le_refl _) (.int .i64 0)).setCell (p := ⟨w.heap.size, 4, none⟩) (Nat.le_refl _) (.int .i64 0)
 have b4 := ((b3.alloc (by simp [World.setCell]; omega) (.cells #[.string nm, .int .i64 0, (.func (Fn.func 172) #[] #[])] 192)).alloc (by simp [World.setCell]; omega) (.cells #[.int .i64 i, .int .u8 x, .int .i64 (0), .int .i64 0, .int .i64 0] 101)).drew
 have r3 := ((((HR1.out.set_ 0 (.int .i64 i)).set_ 1 (.int .u8 x)).set_ 2 (.int .i64 (0))).set_ 3 (.int .i64 0)).set_ 4 (.int .i64 0)
 have r4 := ((r3.alloc (.cells #[.string nm, .int .i64 0, (.func (Fn.func 172) #[] #[])] 192)).alloc (.cells #[.int .i64 i, .int .u8 x, .int .i64 (0), .int .i64 0, .int .i64 0] 101)).drew
 have f0 := r4.cell 0
 have f1 := r4.cell 1
 have f2 := r4.cell 2
 have f3 := r4.cell 3
 have f4 := r4.cell 4
 clear r3 r4 b3 y0 y1 y2 y3 y4 z0 z1 z2 z3 z4
 exact bodyPost_ret (v := .tuple #[.agg (Ins.cells ⟨i, x, 0, 0, 0⟩), .int .i64 0]) (by simp [results, Try.results94, go_sem, Ins.cells, f0, f1, f2, f3, f4]) rfl ⟨rfl, b4⟩
end Go.Proofs.Ytggibiodeecljaa
namespace Go.Proofs.Ytggibiodeecljaa
open Go.RowKit
theorem read_any (A : Option Addr) (l : List Int) (cap : Nat) (at_ : Int) (w : World) (hl : l.length ≤ 1000000) (hcap : l.length ≤ cap) (hb : BytesAt w A l) :
  Calls Try.prog 94 #[.slice A l.length cap, .int .i64 at_] w fun e w' => e = .returned (.tuple #[.agg (readM l at_).1.cells, .int .i64 (readM l at_).2]) ∧ Below w.heap.size w w' := by
 unfold readM
 by_cases h : at_ < 0 ∨ (l.length : Int) ≤ at_
 ·rw [if_pos h]
  exact read_out A l.length cap at_ w hl (by omega)
 rw [if_neg h]
 obtain ⟨i, hi⟩ := Int.eq_ofNat_of_zero_le (show 0 ≤ at_ by omega)
 subst hi
 rw [Int.toNat_natCast]
 have hil : i < l.length := by omega
 have hgo : ∀ k, k < l.length → l[k]? = some (l.getD k 0) := fun k hk => by rw [List.getD_eq_getElem?_getD, List.getElem?_eq_getElem hk]; rfl
 obtain ⟨b, off, rfl, hbl, hc⟩ := hb.at_ i _ (hgo i hil)
 have hcell : ∀ k, k < l.length → w.cell? ⟨b, off + k, none⟩ = some (.int .u8 (l.getD k 0)) ∧ 0 ≤ l.getD k 0 ∧ l.getD k 0 ≤ 255 := fun k hk => by
  obtain ⟨b2, off2, e, _, hc2⟩ := hb.at_ k _ (hgo k hk)
  injection e with e
  injection e with e1 e2
  subst e1 e2
  exact ⟨hc2, hb.byte _ (List.mem_of_getElem? (hgo k hk))⟩
 cases hf : formOf (l.getD i 0) with
 | none => exact read_noform b off l.length cap i _ w hl hil hbl hc hf
 | some p =>
  obtain ⟨nm, k⟩ := p
  simp only
  have hk := form_kind hf
  simp only at hk
  rcases hk with rfl | rfl | rfl | rfl
  ·have hsz : sizeK 0 = 0 := rfl
   rw [hsz, if_neg (by omega)]
   by_cases hce : i + 1 < cap
   ·exact read_yes0 b off l.length cap i _ nm w hl hcap hil hbl hc hf hce
   ·exact read_yes4 b off l.length cap i _ nm w hl hcap hil hbl hc hf (by omega)
  ·have hsz : sizeK 1 = 1 := rfl
   rw [hsz]
   by_cases hs : (l.length : Int) - i - 1 < 1
   ·rw [if_pos hs]
    exact read_cut1 b off l.length cap i _ nm w hl hcap hil hbl hc hf hs
   ·rw [if_neg hs]
    obtain ⟨d1, d10, d11⟩ := hcell (i + 1) (by omega)
    exact read_yes1 b off l.length cap i _ nm w hl hcap hil hbl hc hf (by omega) _ d10 d11 d1
  ·have hsz : sizeK 2 = 2 := rfl
   rw [hsz]
   by_cases hs : (l.length : Int) - i - 1 < 2
   ·rw [if_pos hs]
    exact read_cut2 b off l.length cap i _ nm w hl hcap hil hbl hc hf hs
   ·rw [if_neg hs]
    obtain ⟨d1, d10, d11⟩ := hcell (i + 1) (by omega)
    obtain ⟨d2, d20, d21⟩ := hcell (i + 2) (by omega)
    exact read_yes2 b off l.length cap i _ nm w hl hcap hil hbl hc hf (by omega) _ d10 d11 d1 _ d20 d21 d2
  ·have hsz : sizeK 3 = 4 := rfl
   rw [hsz]
   by_cases hs : (l.length : Int) - i - 1 < 4
   ·rw [if_pos hs]
    exact read_cut3 b off l.length cap i _ nm w hl hcap hil hbl hc hf hs
   ·rw [if_neg hs]
    obtain ⟨d1, d10, d11⟩ := hcell (i + 1) (by omega)
    obtain ⟨d2, d20, d21⟩ := hcell (i + 2) (by omega)
    obtain ⟨d3, d30, d31⟩ := hcell (i + 3) (by omega)
    obtain ⟨d4, d40, d41⟩ := hcell (i + 4) (by omega)
    exact read_yes3 b off l.length cap i _ nm w hl hcap hil hbl hc hf (by omega) _ d10 d11 d1 _ d20 d21 d2 _ d30 d31 d3 _ d40 d41 d4
end Go.Proofs.Ytggibiodeecljaa
