/- verify.Code's shapes are sorted: slices.SortFunc at []Shape, with the order of the offsets. -/
import Derived.Shelf.SlSortCmp.WholeK
import Derived.Test.YtabpheanbomibaaGreatDoorHeap2
namespace Go.Proofs.YtabpheanbomibaaGreatDoor
open Go.RowKit Go.Shelf Go.Lib Go.Sort
set_option linter.unusedVariables false
def sortS_ren : Go.Shelf.Ren := ⟨fun | 6 => 34 | 15 => 90 | 14 => 89 | 28 => 120 | 29 => 121 | 20 => 112 | 21 => 113 | 22 => 114 | 23 => 115 | 24 => 116 | 25 => 117 | 26 => 118 | 27 => 119 | 46 => 144 | 47 => 145 | 48 => 146 | 49 => 147 | 50 => 148 | 57 => 153 | n => n, fun | 22 => 29 | 24 => 69 | 25 => 104 | 3 => 3 | 39 => 152 | 0 => 0 | 53 => 219 | 55 => 159 | 4 => 4 | 46 => 213 | 45 => 212 | 50 => 96 | 5 => 5 | 9 => 9 | 66 => 239 | 70 => 243 | 76 => 248 | 77 => 249 | n => n, fun | n => n⟩
theorem sortS : Go.Proofs.SlLaysF0.n6 Tryz.prog sortS_ren := {
  mixed := by kernel_rfl
  f6 := ⟨Tryz.f34.name, by decide, Tryz.func34.trans (congrArg some (by kernel_rfl))⟩
  f14 := ⟨Tryz.f89.name, by decide, Tryz.func89.trans (congrArg some (by kernel_rfl))⟩
  f15 := Tryz.func90.trans (congrArg some (by kernel_rfl))
  f20 := ⟨Tryz.f112.name, by decide, Tryz.func112.trans (congrArg some (by kernel_rfl))⟩
  f21 := ⟨Tryz.f113.name, by decide, Tryz.func113.trans (congrArg some (by kernel_rfl))⟩
  f22 := ⟨Tryz.f114.name, by decide, Tryz.func114.trans (congrArg some (by kernel_rfl))⟩
  f23 := ⟨Tryz.f115.name, by decide, Tryz.func115.trans (congrArg some (by kernel_rfl))⟩
  f24 := ⟨Tryz.f116.name, by decide, Tryz.func116.trans (congrArg some (by kernel_rfl))⟩
  f25 := ⟨Tryz.f117.name, by decide, Tryz.func117.trans (congrArg some (by kernel_rfl))⟩
  f26 := ⟨Tryz.f118.name, by decide, Tryz.func118.trans (congrArg some (by kernel_rfl))⟩
  f27 := ⟨Tryz.f119.name, by decide, Tryz.func119.trans (congrArg some (by kernel_rfl))⟩
  f28 := Tryz.func120.trans (congrArg some (by kernel_rfl))
  f29 := Tryz.func121.trans (congrArg some (by kernel_rfl))
  f46 := ⟨Tryz.f144.name, by decide, Tryz.func144.trans (congrArg some (by kernel_rfl))⟩
  f47 := Tryz.func145.trans (congrArg some (by kernel_rfl))
  f48 := Tryz.func146.trans (congrArg some (by kernel_rfl))
  f49 := ⟨Tryz.f147.name, by decide, Tryz.func147.trans (congrArg some (by kernel_rfl))⟩
  f50 := ⟨Tryz.f148.name, by decide, Tryz.func148.trans (congrArg some (by kernel_rfl))⟩
  f57 := ⟨Tryz.f153.name, by decide, Tryz.func153.trans (congrArg some (by kernel_rfl))⟩
  t0 := Tryz.underlying0
  a0 := Tryz.isAgg0
  z0 := Tryz.sizeOf0
  v0 := Tryz.zeroValue0
  t3 := Tryz.underlying3
  a3 := Tryz.isAgg3
  z3 := Tryz.sizeOf3
  v3 := Tryz.zeroValue3
  t4 := Tryz.underlying4
  a4 := Tryz.isAgg4
  z4 := Tryz.sizeOf4
  v4 := Tryz.zeroValue4
  t5 := Tryz.underlying5
  a5 := Tryz.isAgg5
  z5 := Tryz.sizeOf5
  v5 := Tryz.zeroValue5
  t9 := Tryz.underlying9
  a9 := Tryz.isAgg9
  z9 := Tryz.sizeOf9
  v9 := Tryz.zeroValue9
  t22 := Tryz.underlying29
  a22 := Tryz.isAgg29
  z22 := Tryz.sizeOf29
  v22 := Tryz.zeroValue29
  t25 := Tryz.underlying104
  a25 := Tryz.isAgg104
  z25 := Tryz.sizeOf104
  v25 := Tryz.zeroValue104
  t39 := Tryz.underlying152
  a39 := Tryz.isAgg152
  z39 := Tryz.sizeOf152
  v39 := Tryz.zeroValue152
  t45 := Tryz.underlying212
  a45 := Tryz.isAgg212
  z45 := Tryz.sizeOf212
  v45 := Tryz.zeroValue212
  t46 := Tryz.underlying213
  a46 := Tryz.isAgg213
  z46 := Tryz.sizeOf213
  v46 := Tryz.zeroValue213
  t50 := Tryz.underlying96
  a50 := Tryz.isAgg96
  z50 := Tryz.sizeOf96
  v50 := Tryz.zeroValue96
  t53 := Tryz.underlying219
  a53 := Tryz.isAgg219
  z53 := Tryz.sizeOf219
  v53 := Tryz.zeroValue219
  t55 := Tryz.underlying159
  a55 := Tryz.isAgg159
  z55 := Tryz.sizeOf159
  v55 := Tryz.zeroValue159
  t66 := Tryz.underlying239
  a66 := Tryz.isAgg239
  z66 := Tryz.sizeOf239
  v66 := Tryz.zeroValue239
  t70 := Tryz.underlying243
  a70 := Tryz.isAgg243
  z70 := Tryz.sizeOf243
  v70 := Tryz.zeroValue243
  t76 := Tryz.underlying248
  a76 := Tryz.isAgg248
  z76 := Tryz.sizeOf248
  v76 := Tryz.zeroValue248
  t77 := Tryz.underlying249
  a77 := Tryz.isAgg249
  z77 := Tryz.sizeOf249
  v77 := Tryz.zeroValue249 }

/-- A shape's two cells: the offset, where the row of its stack lies. -/
structure ShE where
  at_ : Int
  A : Option Addr
  n : Nat
  c : Nat
  h : 0 ≤ at_ ∧ at_ ≤ 100000
instance : Inhabited ShE := ⟨⟨0, none, 0, 0, by decide⟩⟩
def encS (x : ShE) : List Value := [.int .i64 x.at_, .slice x.A x.n x.c]
def shVals (l : List ShE) : List Value := l.flatMap encS
theorem shVals_len (l : List ShE) : (shVals l).length = l.length * 2 := by
  induction l with
  | nil => rfl
  | cons x r ih => simp only [shVals, encS, List.flatMap_cons, List.length_append, List.length_cons, List.length_nil] at ih ⊢; omega
theorem shVals_at : ∀ (l : List ShE) (i : Nat) (x : ShE), l[i]? = some x → (shVals l)[i * 2]? = some (.int .i64 x.at_) ∧ (shVals l)[i * 2 + 1]? = some (.slice x.A x.n x.c)
  | [], i, x, h => by simp at h
  | y :: r, 0, x, h => by
    simp at h
    subst h
    exact ⟨rfl, rfl⟩
  | y :: r, i + 1, x, h => by
    have := shVals_at r i x (by simpa using h)
    have e : shVals (y :: r) = .int .i64 y.at_ :: .slice y.A y.n y.c :: shVals r := rfl
    rw [e, show (i + 1) * 2 = i * 2 + 1 + 1 by omega]
    exact this
theorem flat_at (d : Array ShE) (t : Nat) (h : t < d.size * 2) : (flatK encS 2 d)[t]? = (shVals d.toList)[t]? := by
  have h1 : (flatK encS 2 d)[t]? = some (flatK encS 2 d)[t]! := by
    rw [getElem!_pos _ t (by rw [size_flatK]; exact h)]
    exact Array.getElem?_eq_getElem (by rw [size_flatK]; exact h)
  have hi : t / 2 < d.size := by omega
  have h2 : d.toList[t / 2]? = some d[t / 2]! := by
    rw [getElem!_pos d _ hi, Array.getElem?_toList]
    exact Array.getElem?_eq_getElem hi
  obtain ⟨a1, a2⟩ := shVals_at _ _ _ h2
  rw [h1, get_flatK _ _ _ _ h]
  rcases Nat.mod_two_eq_zero_or_one t with e | e
  · rw [e, show t = t / 2 * 2 by omega, a1, show t / 2 * 2 / 2 = t / 2 by omega]
    rfl
  · rw [e, show t = t / 2 * 2 + 1 by omega, a2, show (t / 2 * 2 + 1) / 2 = t / 2 by omega]
    rfl
theorem ltS (x y : ShE) : ltOf (fun x y : ShE => x.at_ - y.at_) x y = decide (x.at_ < y.at_) := by
  show decide (x.at_ - y.at_ < 0) = decide (x.at_ < y.at_)
  by_cases h : x.at_ < y.at_
  · rw [decide_eq_true h, decide_eq_true (by omega)]
  · rw [decide_eq_false h, decide_eq_false (by omega)]
theorem swoS : SWO (ltOf fun x y : ShE => x.at_ - y.at_) where
  irrefl x := by rw [ltS]; simp
  trans x y z h1 h2 := by rw [ltS] at *; simp at *; omega
  ntrans x y z h1 h2 := by rw [ltS] at *; simp at *; omega
set_option maxHeartbeats 1000000 in
theorem byat_lay (x y : ShE) (W : World) : Calls Tryz.prog 35 #[.agg #[.int .i64 x.at_, .slice x.A x.n x.c], .agg #[.int .i64 y.at_, .slice y.A y.n y.c]] W fun e w' => e = .returned (.int .i64 (x.at_ - y.at_)) ∧ ∃ q os', w' = grow (W.drewN q) os' := by
  obtain ⟨a, A, n, c, ha0, ha1⟩ := x
  obtain ⟨b, A2, n2, c2, hb0, hb1⟩ := y
  have hw : IntKind.i64.wrap (a - b) = a - b := by rw [IntKind.wrap_i64]; omega
  simp only
  go_enter Tryz.func35, Tryz.ntmps35
  go_wp2_with fail
  go_ret
  exact ⟨rfl, 0, _, by rw [alloc_eq_grow, alloc_eq_grow, grow_grow]; rfl⟩
theorem cmpS (blk off size : Nat) (w : World) : CmpLays Tryz.prog 35 #[] encS 2 (fun x y => x.at_ - y.at_) blk off size w := fun _ _ _ _ x y => byat_lay x y _
theorem isAggS (w : World) : (isAgg 69).run Tryz.prog w = .ok true w := by kernel_rfl
theorem sizeS (w : World) : (Go.sizeOf 69).run Tryz.prog w = .ok 2 w := by kernel_rfl
theorem grow_at (w : World) (os : Array Obj) (i : Nat) (h : i < w.heap.size) : (grow w os).heap[i]? = w.heap[i]? := by
  unfold grow
  exact Array.getElem?_append_left h
/-- The row, sorted. -/
theorem sort_world {w : World} {g cap B m : Nat} {os : Array Obj} {d d' : Array ShE} (ho : w.ownsRow B 69 2 (.slice (some ⟨g, 0, none⟩) d.size cap) d.size (shVals d.toList)) (hs : d'.size = d.size) :
    (sortWorldK encS 2 w g 0 m d' os).ownsRow B 69 2 (.slice (some ⟨g, 0, none⟩) d.size cap) d.size (shVals d'.toList) ∧ Frm B [69] w (sortWorldK encS 2 w g 0 m d' os) := by
  rcases ho.2 with ⟨h, _⟩ | ⟨g', cap', cur, e1, hB, hh, h1, h2, h3, h4⟩
  · cases h
  injection e1 with e1 _ e3
  injection e1 with e1
  injection e1 with e1 _ _
  subst e1 e3
  have hg : g < w.heap.size := (Array.getElem?_eq_some_iff.1 hh).1
  have hat : ∀ i, i < w.heap.size → (sortWorldK encS 2 w g 0 m d' os).heap[i]? = if g = i then some (.cells (putCells id 0 (flatK encS 2 d') cur) 69 (0, 0)) else w.heap[i]? := fun i hi => by
    unfold sortWorldK
    rw [grow_at _ _ _ (by unfold putRowK putRow mapBlock; simpa [Sort.ahead] using hi)]
    unfold putRowK putRow mapBlock
    simp only [Array.getElem?_modify, Sort.ahead]
    by_cases e : g = i
    · subst e
      rw [if_pos rfl, if_pos rfl, hh]
      rfl
    · rw [if_neg e, if_neg e]
  have hsz : w.heap.size ≤ (sortWorldK encS 2 w g 0 m d' os).heap.size := by
    unfold sortWorldK putRowK putRow mapBlock grow
    simp [Sort.ahead]
  refine ⟨⟨by rw [shVals_len]; simp [hs], .inr ⟨g, cap, putCells id 0 (flatK encS 2 d') cur, rfl, hB, ?_, h1, h2, ?_, ?_⟩⟩, ⟨⟨rfl, rfl, rfl, hsz, fun i hi => ?_⟩, fun i cs t fr hi ht => ?_⟩⟩
  · rw [hat g hg, if_pos rfl]
  · unfold putCells; simpa using h3
  · refine List.ext_getElem? fun t => ?_
    have hl : (shVals d'.toList).length = d.size * 2 := by rw [shVals_len]; simp [hs]
    by_cases ht : t < d.size * 2
    · rw [List.getElem?_take, if_pos ht, ← flat_at d' t (by omega), Array.getElem?_toList]
      unfold putCells
      rw [Array.getElem?_mapIdx, Array.getElem?_eq_getElem (by omega : t < cur.size)]
      have hf : t < (flatK encS 2 d').size := by rw [size_flatK]; omega
      simp only [Option.map_some, Nat.zero_le, true_and, Nat.zero_add, Nat.sub_zero, id, hf, if_true]
      rw [getElem!_pos _ t hf]
      exact (Array.getElem?_eq_getElem hf).symm
    · rw [List.getElem?_take, if_neg ht, List.getElem?_eq_none (by omega)]
  · rw [hat i (by omega), if_neg (by omega)]
  · have hi2 : i < w.heap.size := (Array.getElem?_eq_some_iff.1 hi).1
    rw [hat i hi2, if_neg]
    rintro rfl
    rw [hh] at hi
    injection hi with hi
    injection hi with _ hi _
    exact ht (by rw [← hi]; simp)
theorem holds_own {w : World} {g cap B : Nat} {d : Array ShE} (ho : w.ownsRow B 69 2 (.slice (some ⟨g, 0, none⟩) d.size cap) d.size (shVals d.toList)) : HoldsK encS 2 w g 0 d ∧ g < w.heap.size := by
  rcases ho.2 with ⟨h, _⟩ | ⟨g', cap', cur, e1, hB, hh, h1, h2, h3, h4⟩
  · cases h
  injection e1 with e1 _ e3
  injection e1 with e1
  injection e1 with e1 _ _
  subst e1 e3
  refine ⟨fun t ht => ?_, (Array.getElem?_eq_some_iff.1 hh).1⟩
  rw [size_flatK] at ht
  have hc : cur[t]? = (shVals d.toList)[t]? := by
    rw [← h4, List.getElem?_take, if_pos ht, Array.getElem?_toList]
  have hf : t < (flatK encS 2 d).size := by rw [size_flatK]; omega
  refine ⟨?_, ?_⟩
  · have hB : Blk w g 69 cur := hh
    rw [Nat.zero_add, Blk.cell hB t, hc, ← flat_at d t ht, getElem!_pos _ t hf]
    exact Array.getElem?_eq_getElem hf
  · simp [World.frozen?, hh]
set_option maxHeartbeats 1000000 in
theorem sort_any {w : World} {g cap B : Nat} (d : Array ShE) (ho : w.ownsRow B 69 2 (.slice (some ⟨g, 0, none⟩) d.size cap) d.size (shVals d.toList)) (hn : d.size < 4611686018427387904) :
    Calls Tryz.prog 34 #[.slice (some ⟨g, 0, none⟩) d.size cap, .func (.func 35) #[] #[]] w fun e w' =>
      e = .returned (.tuple #[]) ∧ ∃ l' : List ShE, l'.Perm d.toList ∧ l'.Pairwise (fun a b => a.at_ ≤ b.at_) ∧ w'.ownsRow B 69 2 (.slice (some ⟨g, 0, none⟩) d.size cap) d.size (shVals l') ∧ Frm B [69] w w' := by
  have eg : ∀ args w, (callFunc 35 args).run Tryz.prog w = .ok (.enter 35 args) w := enters_of Tryz.func35 (by kernel_rfl) rfl
  obtain ⟨hH, hg⟩ := holds_own ho
  have hcon := AnyQ.slices_SortFunc sortS 2 isAggS sizeS encS (fun _ => rfl) (fun x v hv => by simp [encS] at hv; rcases hv with rfl | rfl <;> rfl) (fun x y => x.at_ - y.at_) swoS 35 #[] g 0 cap d w eg (cmpS g 0 d.size w) hH hg hn
  refine hcon.mono ?_
  rintro e w' ⟨rfl, d', n, os, hp, hs, rfl⟩
  obtain ⟨h1, h2⟩ := sort_world (m := n) (os := os) ho hp.1
  refine ⟨rfl, d'.toList, ?_, ?_, h1, h2⟩
  · have := hp.2.2
    have e : List.take d'.size d.toList = d.toList := List.take_of_length_le (by rw [hp.1]; simp)
    simpa [← hp.1, e] using this
  · rw [List.pairwise_iff_getElem]
    intro i j hi hj hij
    have := hs i j (Nat.zero_le _) hij (by rw [← hp.1]; simpa using hj)
    rw [ltS] at this
    simp only [decide_eq_false_iff_not] at this
    rw [getElem!_pos d' j (by simpa using hj), getElem!_pos d' i (by simpa using hi)] at this
    simp only [Array.getElem_toList]
    omega
/-- The answer's shapes in memory. -/
def ShapeAt (w : World) (B : Nat) (x : ShE) (p : Int × List Int) : Prop := x.at_ = p.1 ∧ x.n = p.2.length ∧ w.ownsRow B 82 1 (.slice x.A p.2.length x.c) p.2.length (p.2.map (Value.int .i8))
/-- No two of them lie in one block. -/
def LoneS (l : List ShE) : Prop := ∀ x ∈ l, ∀ y ∈ l, ∀ a b : Addr, x.A = some a → y.A = some b → a.block = b.block → x.at_ = y.at_
def ShapesAt (w : World) (B : Nat) (v : Value) (L : List (Int × List Int)) : Prop := ∃ l : List ShE, w.ownsRow B 69 2 v l.length (shVals l) ∧ l.length = L.length ∧ (∀ (i : Nat) x p, l[i]? = some x → L[i]? = some p → ShapeAt w B x p) ∧ LoneS l
theorem ShapesAt.none_ (w : World) (B : Nat) : ShapesAt w B (.slice none 0 0) [] := ⟨[], World.ownsRow_nil _ _ _ _, rfl, fun i x p h => by simp at h, fun x hx => by simp at hx⟩
end Go.Proofs.YtabpheanbomibaaGreatDoor
