/- tableaulaw20: rises. tableaulaw20: slots, works. -/
import Derived.Test.YtabpheanbomibaaGreatDoorCopyV
import Derived.Test.YtabpheanbomibaaGreatDoorVerE
import Derived.Test.YtabpheanbomibaaGreatDoorVerS
import Derived.Test.YtabpheanbomibaaGreatDoorVerU
namespace Go.Proofs.YtabpheanbomibaaGreatDoor
open Go.RowKit
set_option linter.unusedVariables false

theorem shapes_cell {w : World} {B : Nat} {v : Value} {L : List (Int × List Int)} (h : ShapesAt w B v L) : ∃ A c, v = .slice A L.length c ∧ ∀ (i : Nat) p, L[i]? = some p → ∃ g A2 c2, A = some ⟨g, 0, none⟩ ∧ g < w.heap.size ∧ w.cell? ⟨g, i * 2, none⟩ = some (.int .i64 p.1) ∧ w.cell? ⟨g, i * 2 + 1, none⟩ = some (.slice A2 p.2.length c2) ∧ w.ownsRow B 82 1 (.slice A2 p.2.length c2) p.2.length (p.2.map (Value.int .i8)) := by
  obtain ⟨l, ho, hl, hat, _⟩ := h
  obtain ⟨A, c, rfl⟩ := own_form ho
  refine ⟨A, c, by rw [hl], fun i p hi => ?_⟩
  have hil : i < l.length := by rw [hl]; exact (List.getElem?_eq_some_iff.1 hi).1
  have hx : l[i]? = some l[i] := List.getElem?_eq_getElem hil
  obtain ⟨h1, h2, h3⟩ := hat i _ p hx hi
  obtain ⟨q1, q2⟩ := shVals_at l i _ hx
  rcases ho.2 with ⟨e, hn⟩ | ⟨g, cap, cur, e, hB, hh, k1, k2, k3, k4⟩
  · omega
  injection e with e1 _ e3
  subst e1 e3
  have hb : Blk w g 69 cur := hh
  have hcur : ∀ t, t < l.length * 2 → cur[t]? = (shVals l)[t]? := fun t ht => by
    rw [← k4, List.getElem?_take, if_pos ht, Array.getElem?_toList]
  refine ⟨g, l[i].A, l[i].c, rfl, hb.lt, ?_, ?_, h3⟩
  · rw [hb.cell, hcur _ (by omega), q1, h1]
  · rw [hb.cell, hcur _ (by omega), q2, h2]
section
variable (w : World) (B : Nat) (v : Value) (L : List (Int × List Int)) (size : Nat) (high : Int)
def topV (L : List (Int × List Int)) : Int := L.foldl (fun m p => max m (p.2.length : Int)) 0
theorem topV_take {L : List (Int × List Int)} {k : Nat} {p : Int × List Int} (h : L[k]? = some p) : topV (L.take (k + 1)) = max (topV (L.take k)) (p.2.length : Int) := by
  unfold topV
  rw [List.take_add_one, h]
  simp
end
end Go.Proofs.YtabpheanbomibaaGreatDoor
namespace Go.Proofs.YtabpheanbomibaaGreatDoor
open Go.RowKit
set_option linter.unusedVariables false

theorem bytes_of_blk {w : World} {g : Nat} {t : TypeId} {l : List Int} (h : Blk w g t (l.map (Value.int .u8)).toArray) (hb : ∀ x ∈ l, 0 ≤ x ∧ x ≤ 255) : BytesAt w (some ⟨g, 0, none⟩) l := by
  refine ⟨hb, fun k x hk => ⟨g, 0, rfl, h.lt, ?_⟩⟩
  rw [h.cell]
  simp [hk]
theorem smalls_of_blk {w : World} {g : Nat} {t : TypeId} {l : List Int} (h : Blk w g t (l.map (Value.int .i8)).toArray) : SmallsAt w (some ⟨g, 0, none⟩) l := by
  refine fun k x hk => ⟨g, 0, rfl, h.lt, ?_⟩
  rw [h.cell]
  simp [hk]
theorem slots_any (w : World) : Calls Tryz.prog 64 #[] w fun e w' => e = .returned (.slice (some ⟨w.heap.size, 0, none⟩) 3 3) ∧ w.alloc (.cells #[.int .i8 3, .int .i8 4, .int .i8 1] 82) = w' := by
  go_enter Tryz.func64, Tryz.ntmps64
  go_wp2
  go_ret
  exact ⟨rfl, rfl⟩
set_option maxRecDepth 100000 in
theorem codeV_w1 : codeV [1, 0, 0, 15, 5, 2, 34] [3, 4, 1] 1 0 = ([(0, []), (3, [1]), (4, [1]), (6, [])], 1, 0, 0) := by kernel_rfl
set_option maxRecDepth 100000 in
theorem codeV_w2 : codeV [10, 34] [3, 4, 1] 1 0 = ([], 0, 45, 0) := by kernel_rfl
theorem ShapesAt.below {w w' : World} {B : Nat} {v : Value} {L : List (Int × List Int)} (h : ShapesAt w B v L) (hb : Below w.heap.size w w') : ShapesAt w' B v L := by
  obtain ⟨l, h1, h2, h3, h4⟩ := h
  have hf : Frm 0 [] w w' := Frm.of_below hb (Nat.zero_le _)
  refine ⟨l, hf.own h1 (by simp), h2, fun i x p hi hp => ?_, h4⟩
  obtain ⟨q1, q2, q3⟩ := h3 i x p hi hp
  exact ⟨q1, q2, hf.own q3 (by simp)⟩
theorem two_code {w : World} {bl sl : List Int} {T : AnsV} (bc sc : Nat) (ints texts : Int) (hb : ∀ x ∈ bl, 0 ≤ x ∧ x ≤ 255) (hbc : bl.length ≤ bc) (hl : bl.length ≤ 1000) (hs : sl.length ≤ 1000) (hT : codeV bl sl ints texts = T) :
    Calls Tryz.prog 8 #[.slice (some ⟨w.heap.size, 0, none⟩) bl.length bc, .slice (some ⟨w.heap.size + 1, 0, none⟩) sl.length sc, .int .i64 ints, .int .i64 texts] ((w.alloc (.cells (bl.map (Value.int .u8)).toArray 5)).alloc (.cells (sl.map (Value.int .i8)).toArray 82)) fun e w' => ∃ v, e = .returned (.tuple #[v, .int .i64 T.2.1, .agg #[.int .i64 T.2.2.1, .int .i64 T.2.2.2, .int .i64 0, .int .i64 0]]) ∧ ShapesAt w' w.heap.size v T.1 ∧ (T.2.2.1 ≠ 0 → v = .slice none 0 0) ∧ Below w.heap.size w w' := by
  have h1 := (Blk.new w 5 (bl.map (Value.int .u8)).toArray).alloc (.cells (sl.map (Value.int .i8)).toArray 82)
  have h2 := Blk.new (w.alloc (.cells (bl.map (Value.int .u8)).toArray 5)) 82 (sl.map (Value.int .i8)).toArray
  rw [World.size_alloc] at h2
  have hB : Below w.heap.size w ((w.alloc (.cells (bl.map (Value.int .u8)).toArray 5)).alloc (.cells (sl.map (Value.int .i8)).toArray 82)) := ((Below.refl _ _).alloc (Nat.le_refl _) _).alloc (by simp) _
  have hc := code_any _ (some ⟨w.heap.size, 0, none⟩) (some ⟨w.heap.size + 1, 0, none⟩) bl sl bc sc ints texts (bytes_of_blk h1 hb) hbc (by omega) (by omega) (smalls_of_blk h2)
  rw [hT] at hc
  refine hc.mono ?_
  rintro e w' ⟨v, rfl, q1, q2, q3⟩
  obtain ⟨l, r1, r2, r3, r4⟩ := q1
  refine ⟨v, rfl, ⟨l, own_base r1 hB.size, r2, fun i x p hi hp => ?_, r4⟩, q2, hB.trans (q3.mono hB.size)⟩
  obtain ⟨t1, t2, t3⟩ := r3 i x p hi hp
  exact ⟨t1, t2, own_base t3 hB.size⟩
set_option maxRecDepth 100000 in
set_option maxHeartbeats 8000000 in
theorem works20_any (w : World) : Calls Tryz.prog 18 #[] w fun e w' => e = .returned (.bool true) ∧ Below w.heap.size w w' := by
  have hc1 := fun w => two_code (w := w) (bl := [1, 0, 0, 15, 5, 2, 34]) (sl := [3, 4, 1]) 7 3 1 0 (by decide) (by decide) (by decide) (by decide) codeV_w1
  have hc2 := fun w => two_code (w := w) (bl := [10, 34]) (sl := [3, 4, 1]) 2 3 1 0 (by decide) (by decide) (by decide) (by decide) codeV_w2
  simp only [List.length_cons, List.length_nil, Nat.reduceAdd, List.map_cons, List.map_nil] at hc1 hc2
  have HC1 := Lib.hid hc1
  have HC2 := Lib.hid hc2
  clear hc1 hc2
  have hnq := neq_fault
  go_enter Tryz.func18, Tryz.ntmps18
  go_wp2_with fail
  refine (slots_any _).mono ?_
  rintro e w1 ⟨rfl, rfl⟩
  go_wp2_with fail
  refine (HC1.out w).mono ?_
  rintro e w2 ⟨v, rfl, hsh, _, hb2⟩
  obtain ⟨A, c, rfl, _⟩ := shapes_cell hsh
  have HS := Lib.hid hsh
  have HB2 := Lib.hid hb2
  clear hsh hb2
  simp only [List.length_cons, List.length_nil, Nat.reduceAdd] at HS ⊢
  go_wp2_with fail
  refine (slots_any _).mono ?_
  rintro e w1 ⟨rfl, rfl⟩
  go_wp2_with fail
  have hc2 := HC2.out (w2.alloc (.cells #[.int .i64 0, .int .i64 0, .int .i64 0, .int .i64 0] 32))
  simp only [World.size_alloc] at hc2
  have hf1 := Blk.new w2 32 #[.int .i64 0, .int .i64 0, .int .i64 0, .int .i64 0]
  have HF1 := Lib.hid hf1
  clear hf1
  refine hc2.mono ?_
  rintro e w3 ⟨v3, rfl, _, hnil, hb3⟩
  obtain rfl := hnil (by decide)
  have hf3 := HF1.out.below hb3 (by simp)
  have hS3 := (HS.out.below ((Below.refl _ _).alloc (Nat.le_refl _) (.cells #[.int .i64 0, .int .i64 0, .int .i64 0, .int .i64 0] 32))).below (by rw [World.size_alloc]; exact hb3)
  obtain ⟨A', c', e, hcell⟩ := shapes_cell hS3
  injection e with e1 _ e3
  subst e1 e3
  obtain ⟨g, A1, c1, rfl, hg, k10, k11, ho1⟩ := hcell 1 (3, [1]) rfl
  obtain ⟨g', A3, c3, e, _, k30, k31, _⟩ := hcell 3 (6, []) rfl
  injection e with e
  injection e with e
  subst e
  obtain ⟨b1, rfl, hb1, hb1', k1⟩ := rowV_cells ho1 0 (.int .i8 1) rfl
  have y0 := hf3.cell 0
  have y1 := hf3.cell 1
  have y2 := hf3.cell 2
  have y3 := hf3.cell 3
  have hlt3 := hf3.lt
  have hbb : Below w.heap.size w w3 := (HB2.out.alloc HB2.out.size (.cells #[.int .i64 0, .int .i64 0, .int .i64 0, .int .i64 0] 32)).trans (hb3.mono (by have := HB2.out.size; omega))
  have HBB := Lib.hid hbb
  clear hc2 HC1 HC2 hnil hb3 hS3 hcell ho1 hbb hf3 hb1
  simp only [List.length_cons, List.length_nil, Nat.reduceAdd] at k11 k31
  go_wp2_with fail
  go_ret
  exact ⟨rfl, HBB.out.alloc HBB.out.size _⟩
end Go.Proofs.YtabpheanbomibaaGreatDoor
