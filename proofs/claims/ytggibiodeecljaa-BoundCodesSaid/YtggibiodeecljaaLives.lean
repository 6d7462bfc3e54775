/- tableaulaw18's lives: three closed answers. -/
import Derived.Test.YtggibiodeecljaaCodeP
import Derived.Test.YtggibiodeecljaaMBound
namespace Go.Proofs.Ytggibiodeecljaa
open Go.RowKit
set_option linter.unusedVariables false

def nd (op kind n m kids : Int) : Node := ⟨op, kind, n, m, ByteArray.empty, 0, kids⟩
def tsDraw : List Node := [nd 10 0 0 0 1, nd 19 0 2 0 1, nd 33 4 1 0 0]
def tsDeck : List Node := [nd 10 0 0 0 1, nd 19 0 8 0 1, nd 50 5 1 0 2, nd 33 4 1 0 0, nd 51 0 0 0 0]
theorem draw_yes : checkAble 0 [3, 4] false tsDraw = true := by kernel_rfl
theorem deck_yes : checkAble 0 [3, 4] false tsDeck = true := by kernel_rfl
theorem draw_gas : ableGas false tsDraw 10 = 3 := by kernel_rfl
theorem deck_gas : ableGas false tsDeck 10 = 14 := by kernel_rfl
def insLives : List Ins := [⟨0, 2, 0, 0, 0⟩, ⟨1, 23, 0, 0, 0⟩, ⟨2, 34, 0, 0, 0⟩]
theorem all_lives : allM [2, 23, 34] ([2, 23, 34] : List Int).length 0 [] = (insLives, 0, 0) := by kernel_rfl
theorem plain_lives : plainF insLives = 3 := by kernel_rfl
theorem draw_bound : boundM 0 [3, 4] false tsDraw 10 = (3, 0) := by
  unfold boundM
  rw [if_pos ⟨draw_yes, by omega, by omega⟩, draw_gas]
theorem deck_bound : boundM 0 [3, 4] false tsDeck 10 = (14, 0) := by
  unfold boundM
  rw [if_pos ⟨deck_yes, by omega, by omega⟩, deck_gas]

theorem nodeVals_at : ∀ (ts : List Node) (i j : Nat) (x : Node) (v : Value), ts[i]? = some x → x.cells[j]? = some v → (ts.flatMap Node.cells)[i * 7 + j]? = some v
  | [], i, j, x, v, h, _ => by simp at h
  | y :: r, 0, j, x, v, h, hv => by
    simp only [List.getElem?_cons_zero, Option.some.injEq] at h
    subst h
    have hj : j < 7 := by
      have := (List.getElem?_eq_some_iff.1 hv).1
      simpa [Node.cells] using this
    rw [List.flatMap_cons, Nat.zero_mul, Nat.zero_add, List.getElem?_append_left (by simpa [Node.cells] using hj)]
    exact hv
  | y :: r, i + 1, j, x, v, h, hv => by
    have := nodeVals_at r i j x v h hv
    have hl : y.cells.length = 7 := rfl
    rw [List.flatMap_cons, List.getElem?_append_right (by omega), hl, ← this]
    congr 1
    omega
theorem nodes_blk {w : World} {b : Nat} {t : TypeId} {ts : List Node} (h : Blk w b t (ts.flatMap Node.cells).toArray) : NodesAt w b 0 ts := by
  intro i x hx j v hv
  rw [show 0 + i * 7 + j = i * 7 + j by omega, h.cell, List.getElem?_toArray]
  exact nodeVals_at ts i j x v hx hv
theorem smalls_blk {w : World} {b : Nat} {t : TypeId} {l : List Int} (h : Blk w b t (l.map (Value.int .i8)).toArray) : SmallsAt w (some ⟨b, 0, none⟩) l := by
  intro k x hk
  refine ⟨b, 0, rfl, h.lt, ?_⟩
  rw [Nat.zero_add, h.cell, List.getElem?_toArray, List.getElem?_map, hk]
  rfl
theorem bytes_blk {w : World} {b : Nat} {t : TypeId} {l : List Int} (h : Blk w b t (l.map (Value.int .u8)).toArray) (hb : ∀ x ∈ l, 0 ≤ x ∧ x ≤ 255) : BytesAt w (some ⟨b, 0, none⟩) l :=
  ⟨hb, fun k x hk => ⟨b, 0, rfl, h.lt, by
    rw [Nat.zero_add, h.cell, List.getElem?_toArray, List.getElem?_map, hk]
    rfl⟩⟩

theorem mine_any (w : World) : Calls Try.prog 55 #[] w fun e w' => e = .returned (.slice (some ⟨w.heap.size, 0, none⟩) 2 2) ∧ w.alloc (.cells #[.int .i8 3, .int .i8 4] 40) = w' := by
  go_enter Try.func55, Try.ntmps55
  go_wp2
  go_ret
  exact ⟨rfl, rfl⟩

theorem lives_mem (w : World) {o1 o2 o3 o4 o5 o6 : Obj} {b3 b6 : Array Value} (h1 : o1 = .cells (([3, 4] : List Int).map (Value.int .i8)).toArray 40) (h2 : o2 = .cells (tsDraw.flatMap Node.cells).toArray 42) (h3 : o3 = .cells b3 25)
    (h4 : o4 = .cells (([3, 4] : List Int).map (Value.int .i8)).toArray 40) (h5 : o5 = .cells (tsDeck.flatMap Node.cells).toArray 42) (h6 : o6 = .cells b6 25) :
    TreeAt ((((((w.alloc o1).alloc o2).alloc o3).alloc o4).alloc o5).alloc o6) (some ⟨w.heap.size + 1, 0, none⟩) tsDraw ∧ SmallsAt ((((((w.alloc o1).alloc o2).alloc o3).alloc o4).alloc o5).alloc o6) (some ⟨w.heap.size, 0, none⟩) [3, 4] ∧
    TreeAt ((((((w.alloc o1).alloc o2).alloc o3).alloc o4).alloc o5).alloc o6) (some ⟨w.heap.size + 1 + 1 + 1 + 1, 0, none⟩) tsDeck ∧ SmallsAt ((((((w.alloc o1).alloc o2).alloc o3).alloc o4).alloc o5).alloc o6) (some ⟨w.heap.size + 1 + 1 + 1, 0, none⟩) [3, 4] ∧
    Below w.heap.size w ((((((w.alloc o1).alloc o2).alloc o3).alloc o4).alloc o5).alloc o6) ∧ Blk ((((((w.alloc o1).alloc o2).alloc o3).alloc o4).alloc o5).alloc o6) (w.heap.size + 1 + 1) 25 b3 ∧
    Blk ((((((w.alloc o1).alloc o2).alloc o3).alloc o4).alloc o5).alloc o6) (w.heap.size + 1 + 1 + 1 + 1 + 1) 25 b6 := by
  subst h1 h2 h3 h4 h5 h6
  have r1 := Blk.new w 40 (([3, 4] : List Int).map (Value.int .i8)).toArray
  generalize hw1 : w.alloc (.cells (([3, 4] : List Int).map (Value.int .i8)).toArray 40) = w1 at *
  have s1 : w1.heap.size = w.heap.size + 1 := by rw [← hw1, World.size_alloc]
  have r2 := Blk.new w1 42 (tsDraw.flatMap Node.cells).toArray
  generalize hw2 : w1.alloc (.cells (tsDraw.flatMap Node.cells).toArray 42) = w2 at *
  have s2 : w2.heap.size = w.heap.size + 1 + 1 := by rw [← hw2, World.size_alloc, s1]
  have r3 := Blk.new w2 25 b3
  generalize hw3 : w2.alloc (.cells b3 25) = w3 at *
  have s3 : w3.heap.size = w.heap.size + 1 + 1 + 1 := by rw [← hw3, World.size_alloc, s2]
  have r4 := Blk.new w3 40 (([3, 4] : List Int).map (Value.int .i8)).toArray
  generalize hw4 : w3.alloc (.cells (([3, 4] : List Int).map (Value.int .i8)).toArray 40) = w4 at *
  have s4 : w4.heap.size = w.heap.size + 1 + 1 + 1 + 1 := by rw [← hw4, World.size_alloc, s3]
  have r5 := Blk.new w4 42 (tsDeck.flatMap Node.cells).toArray
  generalize hw5 : w4.alloc (.cells (tsDeck.flatMap Node.cells).toArray 42) = w5 at *
  have s5 : w5.heap.size = w.heap.size + 1 + 1 + 1 + 1 + 1 := by rw [← hw5, World.size_alloc, s4]
  have r6 := Blk.new w5 25 b6
  rw [s1] at r2
  rw [s2] at r3
  rw [s3] at r4
  rw [s4] at r5
  rw [s5] at r6
  have q1 : Below w.heap.size w w1 := by rw [← hw1]; exact (Below.refl _ _).alloc (Nat.le_refl _) _
  have q2 : Below w1.heap.size w1 w2 := by rw [← hw2]; exact (Below.refl _ _).alloc (Nat.le_refl _) _
  have q3 : Below w2.heap.size w2 w3 := by rw [← hw3]; exact (Below.refl _ _).alloc (Nat.le_refl _) _
  have q4 : Below w3.heap.size w3 w4 := by rw [← hw4]; exact (Below.refl _ _).alloc (Nat.le_refl _) _
  have q5 : Below w4.heap.size w4 w5 := by rw [← hw5]; exact (Below.refl _ _).alloc (Nat.le_refl _) _
  have q6 : Below w5.heap.size w5 (w5.alloc (.cells b6 25)) := (Below.refl _ _).alloc (Nat.le_refl _) _
  have t5 := q6
  have t4 := q5.trans (q6.mono (by omega))
  have t3 := q4.trans (t4.mono (by omega))
  have t2 := q3.trans (t3.mono (by omega))
  have t1 := q2.trans (t2.mono (by omega))
  refine ⟨.inr ⟨_, 0, rfl, ?_, nodes_blk (r2.below t2 (by omega))⟩, smalls_blk (r1.below t1 (by omega)), .inr ⟨_, 0, rfl, ?_, nodes_blk (r5.below t5 (by omega))⟩, smalls_blk (r4.below t4 (by omega)), q1.trans (t1.mono (by omega)), r3.below t3 (by omega), r6⟩
  · have := t2.size; omega
  · have := t5.size; omega
theorem small_texts (ts : List Node) (h : ts = tsDraw ∨ ts = tsDeck) : ∀ y ∈ ts, y.text.size ≤ 1099511627776 := by
  have he : ByteArray.empty.size = 0 := rfl
  rcases h with rfl | rfl
  · intro y hy
    simp [tsDraw, nd] at hy
    rcases hy with rfl | rfl | rfl <;> (show ByteArray.empty.size ≤ _; omega)
  · intro y hy
    simp [tsDeck, nd] at hy
    rcases hy with rfl | rfl | rfl | rfl | rfl <;> (show ByteArray.empty.size ≤ _; omega)

set_option maxRecDepth 100000 in
set_option maxHeartbeats 2000000 in
theorem lives_any (w : World) : Calls Try.prog 23 #[] w fun e w' => e = .returned (.bool true) ∧ Below w.heap.size w w' := by
  have HT1 := Lib.hid (small_texts tsDraw (.inl rfl))
  have HT2 := Lib.hid (small_texts tsDeck (.inr rfl))
  go_enter Try.func23, Try.ntmps23
  go_wp2_with fail
  refine (mine_any _).mono ?_
  rintro e w1 ⟨rfl, rfl⟩
  go_wp2_with fail
  refine (mine_any _).mono ?_
  rintro e w2 ⟨rfl, rfl⟩
  go_wp2_with fail
  obtain ⟨k1, k2, k3, k4, k5, k6, k7⟩ := lives_mem w (b3 := #[.int .i64 0, .slice (some ⟨w.heap.size, 0, none⟩) 2 2, .bool false, .slice (some ⟨w.heap.size + 1, 0, none⟩) 3 3]) (b6 := #[.int .i64 0, .slice (some ⟨w.heap.size + 1 + 1 + 1, 0, none⟩) 2 2, .bool false, .slice (some ⟨w.heap.size + 1 + 1 + 1 + 1, 0, none⟩) 5 5]) rfl rfl rfl rfl rfl rfl
  have b1 := bound_any 0 (some ⟨w.heap.size, 0, none⟩) (some ⟨w.heap.size + 1, 0, none⟩) [3, 4] 2 3 false tsDraw 10 _ k1 k2 HT1.out
  rw [draw_bound] at b1
  have K3 := Lib.hid k3
  have K4 := Lib.hid k4
  have K5 := Lib.hid k5
  have K7 := Lib.hid k7
  have B1 := Lib.hid b1
  clear k1 k2 k3 k4 k5 k6 k7 b1
  refine B1.out.mono ?_
  clear B1
  rintro e w3 ⟨rfl, hb3⟩
  have k3 := K3.out.below hb3
  have k4 := K4.out.below hb3
  have k7 := K7.out.below hb3 K7.out.lt
  have c0 := k7.cell 0
  have c1 := k7.cell 1
  have c2 := k7.cell 2
  have c3 := k7.cell 3
  have k5 := K5.out.trans (hb3.mono K5.out.size)
  have b2 := bound_any 0 (some ⟨w.heap.size + 1 + 1 + 1, 0, none⟩) (some ⟨w.heap.size + 1 + 1 + 1 + 1, 0, none⟩) [3, 4] 2 5 false tsDeck 10 w3 k3 k4 HT2.out
  rw [deck_bound] at b2
  have B2 := Lib.hid b2
  have Q5 := Lib.hid k5
  clear k3 k4 k5 k7 b2 hb3 K3 K4 K5 K7
  go_wp2_with fail
  refine B2.out.mono ?_
  rintro e w4 ⟨rfl, hb4⟩
  have Q4 := Lib.hid (Q5.out.trans (hb4.mono Q5.out.size))
  clear hb4 c0 c1 c2 c3
  have hbb := Blk.new w4 5 #[.int .u8 2, .int .u8 23, .int .u8 34]
  have hcode := code_plain (some ⟨w4.heap.size, 0, none⟩) [2, 23, 34] 3 5 insLives (w4.alloc (.cells #[.int .u8 2, .int .u8 23, .int .u8 34] 5)) (by decide) (by decide) (bytes_blk (l := [2, 23, 34]) hbb (by decide)) (by decide) (by decide) all_lives (by unfold insLives plainI; simp) (by decide) (by decide)
  rw [plain_lives] at hcode
  have HCODE := Lib.hid hcode
  clear hbb hcode
  go_wp2_with fail
  refine HCODE.out.mono ?_
  rintro e w5 ⟨rfl, hb5⟩
  have Q6 := (Q4.out.alloc Q4.out.size (.cells #[.int .u8 2, .int .u8 23, .int .u8 34] 5)).trans (hb5.mono (by have := Q4.out.size; simp; omega))
  have HQ6 := Lib.hid Q6
  clear Q6 hb5
  go_wp2_with fail
  go_ret
  exact ⟨rfl, HQ6.out⟩
end Go.Proofs.Ytggibiodeecljaa
