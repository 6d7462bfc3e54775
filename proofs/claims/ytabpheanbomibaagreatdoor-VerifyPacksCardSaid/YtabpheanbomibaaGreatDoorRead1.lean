/- code.Read, of kind 1. -/
import Derived.Test.YtabpheanbomibaaGreatDoorRead
namespace Go.Proofs.YtabpheanbomibaaGreatDoor
open Go.RowKit
set_option linter.unusedVariables false

set_option maxRecDepth 100000 in
set_option maxHeartbeats 1000000 in
theorem read_yes1 (b off n cap i : Nat) (x : Int) (nm : ByteArray) (w : World) (hn : n ≤ 1000000) (hnc : n ≤ cap) (hi : i < n) (hb : b < w.heap.size) (hc : w.cell? ⟨b, off + i, none⟩ = some (.int .u8 x)) (hx : formOf x = some (nm, 1)) (hs : 1 ≤ (n : Int) - i - 1) (x1 : Int) (g10 : 0 ≤ x1) (g11 : x1 ≤ 255) (hd1 : w.cell? ⟨b, off + (i + 1), none⟩ = some (.int .u8 x1)) :
    Calls Tryz.prog 79 #[.slice (some ⟨b, off, none⟩) n cap, .int .i64 i] w fun e w' => e = .returned (.tuple #[.agg (Ins.cells ⟨i, x, x1, 0, 0⟩), .int .i64 0]) ∧ Below w.heap.size w w' := by
  have hiI : (i : Int) < n := by omega
  have HX := Lib.hid hx
  have hneb : b ≠ w.heap.size := by omega
  have hr0 := Blk.new w 100 #[.int .i64 0, .int .u8 0, .int .i64 0, .int .i64 0, .int .i64 0]
  have HR0 := Lib.hid hr0
  clear hx hr0
  go_enter Tryz.func79, Tryz.ntmps79
  go_wp2_with fail
  refine (of_some1 x nm _ HX.out).mono ?_
  rintro e w1 ⟨rfl, hb1⟩
  have hrd : readerF 1 = .func (Fn.func 137) #[] #[] := rfl
  rw [hrd]
  have hr1 := HR0.out.below hb1 (by simp)
  have hz1 := hb1.size
  simp only [World.size_alloc] at hz1
  have hlt1 : w.heap.size < w1.heap.size := by omega
  have hne1 : w.heap.size ≠ w1.heap.size := by omega
  have hbl : b < w1.heap.size := by omega
  have hbne : b ≠ w1.heap.size := by omega
  have hbne2 : b ≠ w1.heap.size + 1 := by omega
  have y0 := hr1.cell 0
  have y1 := hr1.cell 1
  have y2 := hr1.cell 2
  have y3 := hr1.cell 3
  have y4 := hr1.cell 4
  have z0 := hr1.frozen 0
  have z1 := hr1.frozen 1
  have z2 := hr1.frozen 2
  have z3 := hr1.frozen 3
  have z4 := hr1.frozen 4
  have HB0 := Below.alloc (Below.refl w.heap.size w) (Nat.le_refl _) (.cells #[.int .i64 0, .int .u8 0, .int .i64 0, .int .i64 0, .int .i64 0] 100)
  have HB := Lib.hid (HB0.trans (hb1.mono (by simp)))
  have hc1 : w1.cell? ⟨b, off + i, none⟩ = some (.int .u8 x) := (HB.out.cell (p := ⟨b, _, none⟩) hb).trans hc
  have HBC := Lib.hid (fun k (v : Value) (h : w.cell? ⟨b, off + k, none⟩ = some v) => (HB.out.cell (p := ⟨b, _, none⟩) hb).trans h)
  have HR1 := Lib.hid hr1
  clear hb1 hr1 hrd HB0
  go_wp2_with fail
  refine (size_any 1 _).mono ?_
  rintro e w2 ⟨rfl, rfl⟩
  have hsz : sizeK 1 = 1 := rfl
  rw [hsz]
  have e1 : w1.cell? ⟨b, off + (i + 1), none⟩ = some (.int .u8 x1) := by
    have := HBC.out (i + 1) _ hd1
    rw [show off + (i + 1) = off + (i + 1) by omega] at this
    exact this
  have hB2 := ((((Below.refl w1.heap.size w1).alloc (Nat.le_refl _) (.cells #[.string nm, .int .i64 1, (.func (Fn.func 137) #[] #[])] 198)).alloc (by simp) (.cells #[.int .i64 i, .int .u8 x, .int .i64 0, .int .i64 0, .int .i64 0] 100)).drew)
  obtain ⟨inf, hinf, hsz1⟩ : ∃ inf, Tryz.prog.info? 5 = some inf ∧ inf.size = 1 := by
    have := infoU8
    rw [Option.map_eq_some_iff] at this
    exact this
  have hwi : IntKind.i64.wrap ((i : Int) + 1) = (i : Int) + 1 := by rw [IntKind.wrap_i64]; (try unfold wrap64); omega
  have hsl := fun wx => run_slice_from (P := Tryz.prog) Tryz.underlying22 hinf hsz1 b off n cap (i + 1) ((i : Int) + 1) (by omega) (by omega) hnc (by omega) wx
  have hfb := ((Blk.new w1 198 #[.string nm, .int .i64 1, (.func (Fn.func 137) #[] #[])]).alloc (.cells #[.int .i64 i, .int .u8 x, .int .i64 0, .int .i64 0, .int .i64 0] 100)).cell 2
  go_wp2_with fail
  go_region_held3 (fun w' => w'.cell? ⟨w1.heap.size, 2, none⟩ = some (.func (Fn.func 137) #[] #[])) (first | exact hfb | go_keep) ((first | (go_at_call 137; refine (read1_any b (off + (i + 1)) (n - (i + 1)) (cap - (i + 1)) x1 _ (by omega) g10 g11 ((hB2.cell (p := ⟨b, _, none⟩) hbl).trans e1)).mono ?_; rintro e w5 ⟨rfl, rfl⟩)))
  all_goals go_wp2_with fail
  have b3 := ((((HB.out.setCell (p := ⟨w.heap.size, 0, none⟩) (Nat.le_refl _) (.int .i64 i)).setCell (p := ⟨w.heap.size, 1, none⟩) (Nat.le_refl _) (.int .u8 x)).setCell (p := ⟨w.heap.size, 2, none⟩) (Nat.le_refl _) (.int .i64 (x1))).setCell (p := ⟨w.heap.size, 3, none⟩) (Nat.le_refl _) (.int .i64 0)).setCell (p := ⟨w.heap.size, 4, none⟩) (Nat.le_refl _) (.int .i64 0)
  have b4 := ((b3.alloc (by simp [World.setCell]; omega) (.cells #[.string nm, .int .i64 1, (.func (Fn.func 137) #[] #[])] 198)).alloc (by simp [World.setCell]; omega) (.cells #[.int .i64 i, .int .u8 x, .int .i64 (x1), .int .i64 0, .int .i64 0] 100)).drew
  have r3 := ((((HR1.out.set_ 0 (.int .i64 i)).set_ 1 (.int .u8 x)).set_ 2 (.int .i64 (x1))).set_ 3 (.int .i64 0)).set_ 4 (.int .i64 0)
  have r4 := ((r3.alloc (.cells #[.string nm, .int .i64 1, (.func (Fn.func 137) #[] #[])] 198)).alloc (.cells #[.int .i64 i, .int .u8 x, .int .i64 (x1), .int .i64 0, .int .i64 0] 100)).drew
  have f0 := r4.cell 0
  have f1 := r4.cell 1
  have f2 := r4.cell 2
  have f3 := r4.cell 3
  have f4 := r4.cell 4
  clear r3 r4 b3 y0 y1 y2 y3 y4 z0 z1 z2 z3 z4
  exact bodyPost_ret (v := .tuple #[.agg (Ins.cells ⟨i, x, x1, 0, 0⟩), .int .i64 0]) (by simp [results, Tryz.results79, go_sem, Ins.cells, f0, f1, f2, f3, f4]) rfl ⟨rfl, b4⟩
end Go.Proofs.YtabpheanbomibaaGreatDoor
