/- code.Read. -/
import Derived.Test.YtabpheanbomibaaGreatDoorCode2
namespace Go.Proofs.YtabpheanbomibaaGreatDoor
open Go.RowKit
set_option linter.unusedVariables false

structure Ins where
  at_ : Int
  op : Int
  a : Int
  b : Int
  c : Int
def ins0 : Ins := ⟨0, 0, 0, 0, 0⟩
def Ins.cells (x : Ins) : Array Value := #[.int .i64 x.at_, .int .u8 x.op, .int .i64 x.a, .int .i64 x.b, .int .i64 x.c]
def opA (k : Int) (l : List Int) (i : Nat) : Int := if k = 1 then l.getD (i + 1) 0 else if k = 2 then l.getD (i + 1) 0 * 256 + l.getD (i + 2) 0 else if k = 3 then l.getD (i + 1) 0 else 0
def opB (k : Int) (l : List Int) (i : Nat) : Int := if k = 3 then l.getD (i + 2) 0 else 0
def opC (k : Int) (l : List Int) (i : Nat) : Int := if k = 3 then l.getD (i + 3) 0 * 256 + l.getD (i + 4) 0 else 0
def readM (l : List Int) (at_ : Int) : Ins × Int :=
  if at_ < 0 ∨ (l.length : Int) ≤ at_ then (ins0, 1)
  else match formOf (l.getD at_.toNat 0) with
    | none => (ins0, 40)
    | some p => if (l.length : Int) - at_ - 1 < sizeK p.2 then (ins0, 41)
      else (⟨at_, l.getD at_.toNat 0, opA p.2 l at_.toNat, opB p.2 l at_.toNat, opC p.2 l at_.toNat⟩, 0)

/-- A list of bytes that came in. -/
structure BytesAt (w : World) (A : Option Addr) (l : List Int) : Prop where
  byte : ∀ x ∈ l, 0 ≤ x ∧ x ≤ 255
  at_ : ∀ k x, l[k]? = some x → ∃ b off, A = some ⟨b, off, none⟩ ∧ b < w.heap.size ∧ w.cell? ⟨b, off + k, none⟩ = some (.int .u8 x)
theorem BytesAt.below {w w' : World} {A : Option Addr} {l : List Int} (h : BytesAt w A l) (hb : Below w.heap.size w w') : BytesAt w' A l :=
  ⟨h.byte, fun k x hk => by
    obtain ⟨b, off, h1, h2, h3⟩ := h.at_ k x hk
    exact ⟨b, off, h1, Nat.lt_of_lt_of_le h2 hb.size, (hb.cell (p := ⟨b, _, none⟩) h2).trans h3⟩⟩

theorem run_slice_from {t e : TypeId} {P : Program} (ht : P.underlying t = some (.slice e)) {inf : TypeInfo} (hi : P.info? e = some inf) (hsz : inf.size = 1) (b off n cap k : Nat) (z : Int) (hz : z = k) (h : k ≤ n) (hnc : n ≤ cap) (hk : k < cap) (w : World) :
    (Instr.sliceAt t (.slice (some ⟨b, off, none⟩) n cap) (some (.int .i64 z)) none none).run P w = .ok (.slice (some ⟨b, off + k, none⟩) (n - k) (cap - k)) w := by
  subst hz
  have h1 : ¬ (cap = k) := by omega
  have h2 : (0 : Int) ≤ k ∧ (k : Int) ≤ n := by omega
  unfold Instr.sliceAt
  rw [Sem.run_bind, run_underlying ht, Result.andThen_ok]
  simp only
  unfold Instr.slice
  rw [Sem.run_bind, run_underlying ht, Result.andThen_ok]
  simp only
  have hb : (Instr.sliceBounds true n cap (some (.int .i64 (k : Int))) none none).run P w = .ok (k, n, cap) w := by
    simp [Instr.sliceBounds, Instr.sliceBound, Go.asIntOf, h2]
    exact fun hlt => absurd hlt (by omega)
  have hs : (Go.sizeOf e).run P w = .ok 1 w := by
    simp [Go.sizeOf, Go.typeInfo, Go.program, Sem.run, hi, hsz]
  rw [Sem.run_bind, hb, Result.andThen_ok]
  simp only
  rw [Sem.run_bind, hs, Result.andThen_ok]
  have h3 : ¬ cap - k = cap ∨ k = 0 := by omega
  simp [Sem.run_pure, Addr.add, h1]
theorem run_slice_end {t e : TypeId} {P : Program} (ht : P.underlying t = some (.slice e)) {inf : TypeInfo} (hi : P.info? e = some inf) (A : Option Addr) (n cap k : Nat) (z : Int) (hz : z = k) (h : k ≤ n) (hk : cap = k) (w : World) :
    (Instr.sliceAt t (.slice A n cap) (some (.int .i64 z)) none none).run P w = .ok (.slice A (n - k) 0) w := by
  subst hz
  subst hk
  have h2 : (0 : Int) ≤ cap ∧ (cap : Int) ≤ n := by omega
  unfold Instr.sliceAt
  rw [Sem.run_bind, run_underlying ht, Result.andThen_ok]
  simp only
  unfold Instr.slice
  rw [Sem.run_bind, run_underlying ht, Result.andThen_ok]
  simp only
  have hb : (Instr.sliceBounds true n cap (some (.int .i64 (cap : Int))) none none).run P w = .ok (cap, n, cap) w := by
    simp [Instr.sliceBounds, Instr.sliceBound, Go.asIntOf, h2]
    exact fun hlt => absurd hlt (by omega)
  have hs : (Go.sizeOf e).run P w = .ok inf.size w := by
    simp [Go.sizeOf, Go.typeInfo, Go.program, Sem.run, hi]
  rw [Sem.run_bind, hb, Result.andThen_ok]
  simp only
  rw [Sem.run_bind, hs, Result.andThen_ok]
  simp [Sem.run_pure]
theorem infoU8 : (Tryz.prog.info? 5).map (fun i => i.size) = some 1 := by kernel_rfl
set_option maxRecDepth 100000 in
set_option maxHeartbeats 1000000 in
theorem read_out (A : Option Addr) (n cap : Nat) (at_ : Int) (w : World) (hn : n ≤ 1000000) (h : at_ < 0 ∨ (0 ≤ at_ ∧ (n : Int) ≤ at_)) :
    Calls Tryz.prog 79 #[.slice A n cap, .int .i64 at_] w fun e w' => e = .returned (.tuple #[.agg ins0.cells, .int .i64 1]) ∧ Below w.heap.size w w' := by
  rcases h with h | ⟨h, h2⟩
  · go_enter Tryz.func79, Tryz.ntmps79
    go_wp2_with fail
    exact bodyPost_ret (v := .tuple #[.agg ins0.cells, .int .i64 1]) (by simp [results, Tryz.results79, go_sem, Ins.cells, ins0]) rfl ⟨rfl, (Below.refl _ _).alloc (Nat.le_refl _) _⟩
  · have h3 : ¬ at_ < 0 := by omega
    have h4 : decide ((n : Int) ≤ at_) = true := decide_eq_true h2
    clear h
    go_enter Tryz.func79, Tryz.ntmps79
    go_wp2_with fail
    exact bodyPost_ret (v := .tuple #[.agg ins0.cells, .int .i64 1]) (by simp [results, Tryz.results79, go_sem, Ins.cells, ins0]) rfl ⟨rfl, (Below.refl _ _).alloc (Nat.le_refl _) _⟩

set_option maxRecDepth 100000 in
set_option maxHeartbeats 1000000 in
theorem read_noform (b off n cap i : Nat) (x : Int) (w : World) (hn : n ≤ 1000000) (hi : i < n) (hb : b < w.heap.size) (hc : w.cell? ⟨b, off + i, none⟩ = some (.int .u8 x)) (hx : formOf x = none) :
    Calls Tryz.prog 79 #[.slice (some ⟨b, off, none⟩) n cap, .int .i64 i] w fun e w' => e = .returned (.tuple #[.agg ins0.cells, .int .i64 40]) ∧ Below w.heap.size w w' := by
  have hiI : (i : Int) < n := by omega
  have HX := Lib.hid hx
  have hneb : b ≠ w.heap.size := by omega
  have hr0 := Blk.new w 100 #[.int .i64 0, .int .u8 0, .int .i64 0, .int .i64 0, .int .i64 0]
  have HR0 := Lib.hid hr0
  clear hx hr0
  go_enter Tryz.func79, Tryz.ntmps79
  go_wp2_with fail
  refine (of_none x _ HX.out).mono ?_
  rintro e w1 ⟨rfl, hb1⟩
  have hr1 := HR0.out.below hb1 (by simp)
  have hz1 := hb1.size
  simp only [World.size_alloc] at hz1
  have hlt1 : w.heap.size < w1.heap.size := by omega
  have hne1 : w.heap.size ≠ w1.heap.size := by omega
  have y0 := hr1.cell 0
  have y1 := hr1.cell 1
  have y2 := hr1.cell 2
  have y3 := hr1.cell 3
  have y4 := hr1.cell 4
  have z0 := hr1.frozen 0
  have z1 := hr1.frozen 1
  have z2 := hr1.frozen 2
  have z3 := hr1.frozen 3
  have z4 := hr1.frozen 4
  have HB := Lib.hid (((Below.refl w.heap.size w).alloc (Nat.le_refl _) _).trans (hb1.mono (by simp)))
  clear hb1 hr1
  go_wp2_with fail
  exact bodyPost_ret (v := .tuple #[.agg ins0.cells, .int .i64 40]) (by simp [results, Tryz.results79, go_sem, Ins.cells, ins0, *]) rfl ⟨rfl, (((((HB.out.setCell (Nat.le_refl _) _).setCell (Nat.le_refl _) _).setCell (Nat.le_refl _) _).setCell (Nat.le_refl _) _).setCell (Nat.le_refl _) _).alloc (by simp [World.setCell]; omega) _⟩

set_option maxRecDepth 100000 in
set_option maxHeartbeats 1000000 in
theorem read_cut1 (b off n cap i : Nat) (x : Int) (nm : ByteArray) (w : World) (hn : n ≤ 1000000) (hnc : n ≤ cap) (hi : i < n) (hb : b < w.heap.size) (hc : w.cell? ⟨b, off + i, none⟩ = some (.int .u8 x)) (hx : formOf x = some (nm, 1)) (hs : (n : Int) - i - 1 < 1) :
    Calls Tryz.prog 79 #[.slice (some ⟨b, off, none⟩) n cap, .int .i64 i] w fun e w' => e = .returned (.tuple #[.agg ins0.cells, .int .i64 41]) ∧ Below w.heap.size w w' := by
  have hiI : (i : Int) < n := by omega
  have HX := Lib.hid hx
  have hneb : b ≠ w.heap.size := by omega
  have hr0 := Blk.new w 100 #[.int .i64 0, .int .u8 0, .int .i64 0, .int .i64 0, .int .i64 0]
  have HR0 := Lib.hid hr0
  clear hx hr0
  go_enter Tryz.func79, Tryz.ntmps79
  go_wp2_with fail
  refine (of_some1 x nm _ HX.out).mono ?_
  rintro e w1 ⟨rfl, hb1⟩
  have hrd : readerF 1 = .func (Fn.func 137) #[] #[] := rfl
  rw [hrd]
  have hr1 := HR0.out.below hb1 (by simp)
  have hz1 := hb1.size
  simp only [World.size_alloc] at hz1
  have hlt1 : w.heap.size < w1.heap.size := by omega
  have hne1 : w.heap.size ≠ w1.heap.size := by omega
  have hbl : b < w1.heap.size := by omega
  have hbne : b ≠ w1.heap.size := by omega
  have hbne2 : b ≠ w1.heap.size + 1 := by omega
  have y0 := hr1.cell 0
  have y1 := hr1.cell 1
  have y2 := hr1.cell 2
  have y3 := hr1.cell 3
  have y4 := hr1.cell 4
  have z0 := hr1.frozen 0
  have z1 := hr1.frozen 1
  have z2 := hr1.frozen 2
  have z3 := hr1.frozen 3
  have z4 := hr1.frozen 4
  have HB0 := Below.alloc (Below.refl w.heap.size w) (Nat.le_refl _) (.cells #[.int .i64 0, .int .u8 0, .int .i64 0, .int .i64 0, .int .i64 0] 100)
  have HB := Lib.hid (HB0.trans (hb1.mono (by simp)))
  have hc1 : w1.cell? ⟨b, off + i, none⟩ = some (.int .u8 x) := (HB.out.cell (p := ⟨b, _, none⟩) hb).trans hc
  have HBC := Lib.hid (fun k (v : Value) (h : w.cell? ⟨b, off + k, none⟩ = some v) => (HB.out.cell (p := ⟨b, _, none⟩) hb).trans h)
  clear hb1 hr1 hrd HB0
  go_wp2_with fail
  refine (size_any 1 _).mono ?_
  rintro e w2 ⟨rfl, rfl⟩
  have hsz : sizeK 1 = 1 := rfl
  rw [hsz]
  go_wp2_with fail
  exact bodyPost_ret (v := .tuple #[.agg ins0.cells, .int .i64 41]) (by simp [results, Tryz.results79, go_sem, Ins.cells, ins0, *]) rfl ⟨rfl, (((((HB.out.setCell (Nat.le_refl _) _).setCell (Nat.le_refl _) _).setCell (Nat.le_refl _) _).setCell (Nat.le_refl _) _).setCell (Nat.le_refl _) _).alloc (by simp [World.setCell]; omega) _⟩

set_option maxRecDepth 100000 in
set_option maxHeartbeats 1000000 in
theorem read_cut2 (b off n cap i : Nat) (x : Int) (nm : ByteArray) (w : World) (hn : n ≤ 1000000) (hnc : n ≤ cap) (hi : i < n) (hb : b < w.heap.size) (hc : w.cell? ⟨b, off + i, none⟩ = some (.int .u8 x)) (hx : formOf x = some (nm, 2)) (hs : (n : Int) - i - 1 < 2) :
    Calls Tryz.prog 79 #[.slice (some ⟨b, off, none⟩) n cap, .int .i64 i] w fun e w' => e = .returned (.tuple #[.agg ins0.cells, .int .i64 41]) ∧ Below w.heap.size w w' := by
  have hiI : (i : Int) < n := by omega
  have HX := Lib.hid hx
  have hneb : b ≠ w.heap.size := by omega
  have hr0 := Blk.new w 100 #[.int .i64 0, .int .u8 0, .int .i64 0, .int .i64 0, .int .i64 0]
  have HR0 := Lib.hid hr0
  clear hx hr0
  go_enter Tryz.func79, Tryz.ntmps79
  go_wp2_with fail
  refine (of_some2 x nm _ HX.out).mono ?_
  rintro e w1 ⟨rfl, hb1⟩
  have hrd : readerF 2 = .func (Fn.func 138) #[] #[] := rfl
  rw [hrd]
  have hr1 := HR0.out.below hb1 (by simp)
  have hz1 := hb1.size
  simp only [World.size_alloc] at hz1
  have hlt1 : w.heap.size < w1.heap.size := by omega
  have hne1 : w.heap.size ≠ w1.heap.size := by omega
  have hbl : b < w1.heap.size := by omega
  have hbne : b ≠ w1.heap.size := by omega
  have hbne2 : b ≠ w1.heap.size + 1 := by omega
  have y0 := hr1.cell 0
  have y1 := hr1.cell 1
  have y2 := hr1.cell 2
  have y3 := hr1.cell 3
  have y4 := hr1.cell 4
  have z0 := hr1.frozen 0
  have z1 := hr1.frozen 1
  have z2 := hr1.frozen 2
  have z3 := hr1.frozen 3
  have z4 := hr1.frozen 4
  have HB0 := Below.alloc (Below.refl w.heap.size w) (Nat.le_refl _) (.cells #[.int .i64 0, .int .u8 0, .int .i64 0, .int .i64 0, .int .i64 0] 100)
  have HB := Lib.hid (HB0.trans (hb1.mono (by simp)))
  have hc1 : w1.cell? ⟨b, off + i, none⟩ = some (.int .u8 x) := (HB.out.cell (p := ⟨b, _, none⟩) hb).trans hc
  have HBC := Lib.hid (fun k (v : Value) (h : w.cell? ⟨b, off + k, none⟩ = some v) => (HB.out.cell (p := ⟨b, _, none⟩) hb).trans h)
  clear hb1 hr1 hrd HB0
  go_wp2_with fail
  refine (size_any 2 _).mono ?_
  rintro e w2 ⟨rfl, rfl⟩
  have hsz : sizeK 2 = 2 := rfl
  rw [hsz]
  go_wp2_with fail
  exact bodyPost_ret (v := .tuple #[.agg ins0.cells, .int .i64 41]) (by simp [results, Tryz.results79, go_sem, Ins.cells, ins0, *]) rfl ⟨rfl, (((((HB.out.setCell (Nat.le_refl _) _).setCell (Nat.le_refl _) _).setCell (Nat.le_refl _) _).setCell (Nat.le_refl _) _).setCell (Nat.le_refl _) _).alloc (by simp [World.setCell]; omega) _⟩

set_option maxRecDepth 100000 in
set_option maxHeartbeats 1000000 in
theorem read_cut3 (b off n cap i : Nat) (x : Int) (nm : ByteArray) (w : World) (hn : n ≤ 1000000) (hnc : n ≤ cap) (hi : i < n) (hb : b < w.heap.size) (hc : w.cell? ⟨b, off + i, none⟩ = some (.int .u8 x)) (hx : formOf x = some (nm, 3)) (hs : (n : Int) - i - 1 < 4) :
    Calls Tryz.prog 79 #[.slice (some ⟨b, off, none⟩) n cap, .int .i64 i] w fun e w' => e = .returned (.tuple #[.agg ins0.cells, .int .i64 41]) ∧ Below w.heap.size w w' := by
  have hiI : (i : Int) < n := by omega
  have HX := Lib.hid hx
  have hneb : b ≠ w.heap.size := by omega
  have hr0 := Blk.new w 100 #[.int .i64 0, .int .u8 0, .int .i64 0, .int .i64 0, .int .i64 0]
  have HR0 := Lib.hid hr0
  clear hx hr0
  go_enter Tryz.func79, Tryz.ntmps79
  go_wp2_with fail
  refine (of_some3 x nm _ HX.out).mono ?_
  rintro e w1 ⟨rfl, hb1⟩
  have hrd : readerF 3 = .func (Fn.func 140) #[] #[] := rfl
  rw [hrd]
  have hr1 := HR0.out.below hb1 (by simp)
  have hz1 := hb1.size
  simp only [World.size_alloc] at hz1
  have hlt1 : w.heap.size < w1.heap.size := by omega
  have hne1 : w.heap.size ≠ w1.heap.size := by omega
  have hbl : b < w1.heap.size := by omega
  have hbne : b ≠ w1.heap.size := by omega
  have hbne2 : b ≠ w1.heap.size + 1 := by omega
  have y0 := hr1.cell 0
  have y1 := hr1.cell 1
  have y2 := hr1.cell 2
  have y3 := hr1.cell 3
  have y4 := hr1.cell 4
  have z0 := hr1.frozen 0
  have z1 := hr1.frozen 1
  have z2 := hr1.frozen 2
  have z3 := hr1.frozen 3
  have z4 := hr1.frozen 4
  have HB0 := Below.alloc (Below.refl w.heap.size w) (Nat.le_refl _) (.cells #[.int .i64 0, .int .u8 0, .int .i64 0, .int .i64 0, .int .i64 0] 100)
  have HB := Lib.hid (HB0.trans (hb1.mono (by simp)))
  have hc1 : w1.cell? ⟨b, off + i, none⟩ = some (.int .u8 x) := (HB.out.cell (p := ⟨b, _, none⟩) hb).trans hc
  have HBC := Lib.hid (fun k (v : Value) (h : w.cell? ⟨b, off + k, none⟩ = some v) => (HB.out.cell (p := ⟨b, _, none⟩) hb).trans h)
  clear hb1 hr1 hrd HB0
  go_wp2_with fail
  refine (size_any 3 _).mono ?_
  rintro e w2 ⟨rfl, rfl⟩
  have hsz : sizeK 3 = 4 := rfl
  rw [hsz]
  go_wp2_with fail
  exact bodyPost_ret (v := .tuple #[.agg ins0.cells, .int .i64 41]) (by simp [results, Tryz.results79, go_sem, Ins.cells, ins0, *]) rfl ⟨rfl, (((((HB.out.setCell (Nat.le_refl _) _).setCell (Nat.le_refl _) _).setCell (Nat.le_refl _) _).setCell (Nat.le_refl _) _).setCell (Nat.le_refl _) _).alloc (by simp [World.setCell]; omega) _⟩

end Go.Proofs.YtabpheanbomibaaGreatDoor
