/- tableauref20.Code: the same as the plain function. -/
import Derived.Handy
import Derived.Deep.DeepCutAuto
import Derived.Test.YtabpheanbomibaaGreatDoorR20b
import Derived.Test.YtabpheanbomibaaGreatDoorR20c
import Derived.Test.YtabpheanbomibaaGreatDoorR20g1
import Derived.Test.YtabpheanbomibaaGreatDoorR20g2
import Derived.Test.YtabpheanbomibaaGreatDoorR20g3
import Derived.Test.YtabpheanbomibaaGreatDoorRead16
import Derived.Test.YtabpheanbomibaaGreatDoorVerU
namespace Go.Proofs.YtabpheanbomibaaGreatDoor
open Go.RowKit
set_option linter.unusedVariables false

section
variable (w : World) (B kb hb tb eb n : Nat) (SA : Option Addr) (slots : List Int) (sc : Nat) (ints texts : Int) (st : Int → Option (List Int)) (seen : Int → Bool)
theorem at20_any (x : Ins) (hL : LkAt w B kb hb tb eb n (.slice SA slots.length sc) st seen) (hS : SmallsAt w SA slots) (hs : slots.length ≤ 1000) (hx : AtOk n slots ints texts x) (hn : n ≤ 65535) (hB : B ≤ w.heap.size) (hsl : ∀ y s, st y = some s → s.length ≤ 256) :
    Calls Tryz.prog 42 #[.pointer (some ⟨kb, 0, none⟩), .agg x.cells] w fun e w' => e = .returned (faultV (lookS n slots x st).2) ∧ LkAt w' B kb hb tb eb n (.slice SA slots.length sc) (lookS n slots x st).1 seen ∧ Frm B TL w w' := by
  by_cases hop : x.op = 30 ∨ x.op = 34 ∨ x.op = 35
  · exact at20_A w B kb hb tb eb n SA slots sc ints texts st seen x hL hS hs hx hop hn hB hsl
  · cases hf : (giveS n x.at_ (x.at_ + sizeI x.op) (fullV slots x st) st).2.isSome with
    | true => exact at20_B w B kb hb tb eb n SA slots sc ints texts st seen x hL hS hs hx hop hf hn hB hsl
    | false => exact at20_C w B kb hb tb eb n SA slots sc ints texts st seen x hL hS hs hx hop hf hn hB hsl
end
end Go.Proofs.YtabpheanbomibaaGreatDoor
namespace Go.Proofs.YtabpheanbomibaaGreatDoor
open Go.RowKit
set_option linter.unusedVariables false

/-- A row of shapes, whatever their type. -/
def ShapesR (w : World) (B : Nat) (v : Value) (L : List (Int × List Int)) : Prop := ∃ l : List ShE, w.ownsRow B 118 2 v l.length (shVals l) ∧ l.length = L.length ∧ (∀ (i : Nat) x p, l[i]? = some x → L[i]? = some p → ShapeAt w B x p)
def CodeEndR (w w' : World) (e : Ending) (T : List (Int × List Int) × Int × Int × Int) : Prop := ∃ v, e = .returned (.tuple #[v, .int .i64 T.2.1, .agg #[.int .i64 T.2.2.1, .int .i64 T.2.2.2, .int .i64 0, .int .i64 0]]) ∧ ShapesR w' w.heap.size v T.1 ∧ Below w.heap.size w w'
theorem ShapesR.none_ (w : World) (B : Nat) : ShapesR w B (.slice none 0 0) [] := ⟨[], World.ownsRow_nil _ _ _ _, rfl, fun i x p h => by simp at h⟩
def TI : List TypeId := [3]
theorem ins_cells {w : World} {B n c : Nat} {A : Option Addr} {l : List Ins} (h : w.ownsRow B 100 5 (.slice A n c) n (insVals l)) {i : Nat} {x : Ins} (hx : l[i]? = some x) : ∃ g, A = some ⟨g, 0, none⟩ ∧ g < w.heap.size ∧ w.cell? ⟨g, i * 5, none⟩ = some (.int .i64 x.at_) ∧ w.cell? ⟨g, i * 5 + 1, none⟩ = some (.int .u8 x.op) ∧ w.cell? ⟨g, i * 5 + 2, none⟩ = some (.int .i64 x.a) ∧ w.cell? ⟨g, i * 5 + 3, none⟩ = some (.int .i64 x.b) ∧ w.cell? ⟨g, i * 5 + 4, none⟩ = some (.int .i64 x.c) := by
  obtain ⟨h0, h1, h2, h3, h4⟩ := insVals_at l i x hx
  rcases h.2 with ⟨e, hn⟩ | ⟨g, cap, cur, e, hB, hh, _⟩
  · have h5 := h.1
    rw [hn, Nat.zero_mul] at h5
    rw [List.eq_nil_of_length_eq_zero h5] at h0
    simp at h0
  · injection e with e1 _ _
    have hc := fun j u hj => h.cells (g := g) (by unfold Value.ownBlock; rw [e1]) j u hj
    have ha : ∀ j, (⟨g, 0, none⟩ : Addr).add j = ⟨g, j, none⟩ := fun j => by by_cases hj0 : j = 0 <;> simp [Addr.add, hj0]
    refine ⟨g, e1, (Array.getElem?_eq_some_iff.1 hh).1, ?_, ?_, ?_, ?_, ?_⟩
    · rw [← ha]; exact hc _ _ h0
    · rw [← ha]; exact hc _ _ h1
    · rw [← ha]; exact hc _ _ h2
    · rw [← ha]; exact hc _ _ h3
    · rw [← ha]; exact hc _ _ h4
theorem InsOk.tg {len : Nat} {slots : List Int} {ints texts : Int} {x : Ins} (h : InsOk len slots ints texts x) {tg : Int} (ht : targetV x = some tg) : 0 ≤ tg := by
  have := h.a0
  have := h.c0
  unfold targetV at ht
  split at ht
  · injection ht with e; omega
  · split at ht
    · injection ht with e; omega
    · cases ht
theorem InsOk.at_ok {len : Nat} {slots : List Int} {ints texts : Int} {x : Ins} (h : InsOk len slots ints texts x) : AtOk len slots ints texts x := ⟨h.a0, h.at0, h.lt, h.num, by have := h.at0; have := h.size; omega, fun tg ht => h.tg ht⟩
theorem three {w : World} (o1 o2 o3 o4 : Obj) : let W := ((((w.alloc o1).alloc o2).alloc o3).alloc o4).drew
    W.heap[w.heap.size]? = some o1 ∧ W.heap[w.heap.size + 1]? = some o2 ∧ W.heap[w.heap.size + 1 + 1]? = some o3 ∧ W.heap[w.heap.size + 1 + 1 + 1]? = some o4 ∧ Below w.heap.size w W := by
  intro W
  have z1 : (w.alloc o1).heap.size = w.heap.size + 1 := World.size_alloc _ _
  have z2 : ((w.alloc o1).alloc o2).heap.size = w.heap.size + 1 + 1 := by rw [World.size_alloc, z1]
  have z3 : (((w.alloc o1).alloc o2).alloc o3).heap.size = w.heap.size + 1 + 1 + 1 := by rw [World.size_alloc, z2]
  have e1 : (w.alloc o1).heap[w.heap.size]? = some o1 := heap_alloc_new w o1
  have e2 : ((w.alloc o1).alloc o2).heap[w.heap.size + 1]? = some o2 := by rw [← z1]; exact heap_alloc_new _ o2
  have e3 : (((w.alloc o1).alloc o2).alloc o3).heap[w.heap.size + 1 + 1]? = some o3 := by rw [← z2]; exact heap_alloc_new _ o3
  have e4 : W.heap[w.heap.size + 1 + 1 + 1]? = some o4 := by
    show ((((w.alloc o1).alloc o2).alloc o3).alloc o4).heap[_]? = _
    rw [← z3]; exact heap_alloc_new _ o4
  have up : ∀ (v : World) (o : Obj) (i : Nat) (x : Obj), v.heap[i]? = some x → (v.alloc o).heap[i]? = some x := fun v o i x h => (Below.heap_alloc v o i (Array.getElem?_eq_some_iff.1 h).1).trans h
  refine ⟨?_, ?_, ?_, e4, ?_⟩
  · exact up _ o4 _ _ (up _ o3 _ _ (up _ o2 _ _ e1))
  · exact up _ o4 _ _ (up _ o3 _ _ e2)
  · exact up _ o4 _ _ e3
  · exact (((((Below.refl _ _).alloc (Nat.le_refl _) _).alloc (by omega) _).alloc (by omega) _).alloc (by omega) _).drew
/-- The look that was made. -/
def KAt (Wc wx : World) (B n : Nat) (sv : Value) (v : Value) : Prop := ∃ kb hb tb eb, v = .pointer (some ⟨kb, 0, none⟩) ∧ LkAt wx B kb hb tb eb n sv (fun _ => none) (fun _ => false) ∧ Below Wc.heap.size Wc wx
theorem KAt.new {Wc wx : World} {B n kb hb tb eb : Nat} {sv : Value} (hB : B ≤ Wc.heap.size) (h1 : Wc.heap.size ≤ kb ∧ Wc.heap.size ≤ hb ∧ Wc.heap.size ≤ tb ∧ Wc.heap.size ≤ eb ∧ hb ≠ eb) (hk : wx.heap[kb]? = some (.cells #[.int .i64 n, sv, .slice (some ⟨hb, 0, none⟩) n n, .slice (some ⟨tb, 0, none⟩) n n, .slice (some ⟨eb, 0, none⟩) n n] 116))
    (hh : wx.heap[hb]? = some (.cells (fnA n fun _ => .bool false) 4)) (ht : wx.heap[tb]? = some (.cells (fnA n fun _ => .slice none 0 0) 23)) (he : wx.heap[eb]? = some (.cells (fnA n fun _ => .bool false) 4)) (hb' : Below Wc.heap.size Wc wx) : KAt Wc wx B n sv (.pointer (some ⟨kb, 0, none⟩)) := by
  obtain ⟨q1, q2, q3, q4, q5⟩ := h1
  exact ⟨kb, hb, tb, eb, rfl, ⟨hk, by omega, by omega, by omega, by omega, q5, hh, he, fun _ => (none, 0), ht, fun o s h => by cases h⟩, hb'⟩
theorem LkAt.start {w : World} {B kb hb tb eb n : Nat} {sv : Value} (h : LkAt w B kb hb tb eb n sv (fun _ => none) (fun _ => false)) (hn : 0 < n) : LkAt (w.setCell ⟨hb, 0, none⟩ (.bool true)) B kb hb tb eb n sv startV.stacks (fun _ => false) ∧ Frm B TL w (w.setCell ⟨hb, 0, none⟩ (.bool true)) := by
  have hf : Frm B TL w (w.setCell ⟨hb, 0, none⟩ (.bool true)) := (Frm.refl B TL w).set_ (i := 0) h.has h.hhb (by decide) (.bool true)
  obtain ⟨h1, h2, h3, h4, h5, h6, h7, h8, F, h9, h10⟩ := h
  have hth : tb ≠ hb := h9.ne_ h7 (by decide)
  refine ⟨⟨hf.blk h1 (by decide), h2, h3, h4, h5, h6, ?_, h8.far (p := ⟨hb, 0, none⟩) (Ne.symm h6) _, fun _ => (none, 0), ?_, fun o s ho => ?_⟩, hf⟩
  · have hs := h7.set_ 0 (.bool true)
    rw [fnA_set] at hs
    have e : (fun j : Nat => if j = 0 then Value.bool true else Value.bool ((fun _ => none : Int → Option (List Int)) (j : Int)).isSome) = fun j : Nat => Value.bool (startV.stacks (j : Int)).isSome := by
      funext j
      simp only [startV, setV]
      by_cases hj : j = 0
      · rw [if_pos hj, if_pos (by omega)]; rfl
      · rw [if_neg hj, if_neg (by omega)]
    rw [e] at hs
    exact hs
  · have hs := h9.far (p := ⟨hb, 0, none⟩) hth (.bool true)
    have e : stkC F (fun _ => none) = stkC (fun _ => (none, 0)) startV.stacks := by
      funext j
      unfold stkC
      simp only [startV, setV]
      by_cases hj : (j : Int) = 0
      · rw [if_pos hj]; rfl
      · rw [if_neg hj]
    rw [e] at hs
    exact hs
  · simp only [startV, setV] at ho
    split at ho
    · injection ho with ho
      subst ho
      exact World.ownsRow_nil _ _ _ _
    · cases ho
def tailT (n : Nat) : (Int → Option (List Int)) × Option (Int × Int) → List (Int × List Int) × Int × Int × Int
  | (_, some (e, o)) => ([], 0, e, o)
  | (st, none) => (shapesV n st, highV (shapesV n st), 0, 0)
theorem tailR_T {b slots : List Int} {l : List Ins} (h : jumpsV l l = none) : tailR b slots l = tailT b.length (loopR b.length slots l b.length startV.stacks (fun _ => false)) := by
  unfold tailR tailT
  rw [h]
  rfl
/-- In the look's rounds: so much is left. -/
def QAt (W9 wr : World) (B kb hb tb eb n : Nat) (sv : Value) (slots : List Int) (l : List Ins) (E : (Int → Option (List Int)) × Option (Int × Int)) (v : Value) (m : Nat) : Prop :=
  ∃ (a : Nat) (st : Int → Option (List Int)) (seen : Int → Bool), v = .int .i64 a ∧ a ≤ n ∧ LkAt wr B kb hb tb eb n sv st seen ∧ RestR n slots l st seen E ∧ SOk n l st ∧ (∀ j : Nat, j < a → ((st (j : Int)).isSome && !seen (j : Int)) = false) ∧ Frm B TL W9 wr ∧ m = cntU n seen * (n + 1) + (n - a)
theorem lcells {W wx : World} {B C n c al ib gl i o : Nat} {g : Int → Int} {acc : List Ins} {x : Ins} (hib : Blk W ib 3 (fnA n fun j => .int .i64 (g (j : Int)))) (hown : W.ownsRow C 100 5 (.slice (some ⟨gl, 0, none⟩) al c) al (insVals acc)) (hx : acc[i]? = some x) (ho : o < n) (hf : Frm B TL W wx) :
    wx.cell? ⟨ib, o, none⟩ = some (.int .i64 (g (o : Int))) ∧ wx.cell? ⟨gl, i * 5, none⟩ = some (.int .i64 x.at_) ∧ wx.cell? ⟨gl, i * 5 + 1, none⟩ = some (.int .u8 x.op) ∧ wx.cell? ⟨gl, i * 5 + 2, none⟩ = some (.int .i64 x.a) ∧ wx.cell? ⟨gl, i * 5 + 3, none⟩ = some (.int .i64 x.b) ∧ wx.cell? ⟨gl, i * 5 + 4, none⟩ = some (.int .i64 x.c) := by
  obtain ⟨g2, e, _, q0, q1, q2, q3, q4⟩ := ins_cells (hf.own hown (by decide)) hx
  injection e with e
  injection e with e
  subst e
  exact ⟨((hf.blk hib (by decide)).cell o).trans (fnA_get ho), q0, q1, q2, q3, q4⟩
theorem info_shapeR : (Tryz.prog.info? 118).map (fun i => (i.zero, i.size, i.bytes)) = some (some (.agg #[.int .i64 0, .slice none 0 0]), 2, 32) := by kernel_rfl
theorem shapeR_el : ElT Tryz.prog 35 118 2 32 := ⟨Tryz.underlying35, by decide, by
  obtain ⟨i0, hi, hz0, hz1, hz2⟩ := info_parts info_shapeR
  exact ⟨i0, _, hi, hz0, hz1, hz2, rfl⟩⟩
theorem ShapeAt.frm {w w' : World} {B C : Nat} {T : List TypeId} {x : ShE} {p : Int × List Int} (h : ShapeAt w B x p) (hf : Frm C T w w') (ht : 82 ∉ T) : ShapeAt w' B x p := ⟨h.1, h.2.1, hf.own h.2.2 ht⟩
/-- In the last loop. -/
def OAt (W10 wr : World) (B n : Nat) (st : Int → Option (List Int)) (v22 v23 v24 : Value) : Prop :=
  ∃ (a : Nat) (ls : List ShE), a ≤ n ∧ v24 = .int .i64 a ∧ ls.length = (shapesV a st).length ∧ wr.ownsRow W10.heap.size 118 2 v22 ls.length (shVals ls) ∧ v23 = .int .i64 (highV (shapesV a st)) ∧ (∀ (i : Nat) x p, ls[i]? = some x → (shapesV a st)[i]? = some p → ShapeAt wr B x p) ∧ Frm B [] W10 wr
section
variable (w : World) (BA SA : Option Addr) (b slots : List Int) (bc sc : Nat) (ints texts : Int)
set_option maxRecDepth 100000 in
set_option maxHeartbeats 16000000 in
theorem code20_bad (hb : b.length ≤ 281474976710656) (hs : slots.length ≤ 281474976710656) (hS : SmallsAt w SA slots) (hl : limitsV b slots ints texts ≠ 0) :
    Calls Tryz.prog 9 #[.slice BA b.length bc, .slice SA slots.length sc, .int .i64 ints, .int .i64 texts] w fun e w' => CodeEndR w w' e ([], 0, limitsV b slots ints texts, 0) := by
  have hb0 : Below w.heap.size w (w.alloc (.cells #[.int .i64 0, .int .i64 0, .int .i64 0, .int .i64 0] 32)) := (Below.refl _ _).alloc (Nat.le_refl _) _
  have hlm := limits20_any BA SA b slots bc sc ints texts (w.alloc (.cells #[.int .i64 0, .int .i64 0, .int .i64 0, .int .i64 0] 32)) hb hs (hS.below hb0)
  obtain ⟨R, hR⟩ : ∃ R, limitsV b slots ints texts = R := ⟨_, rfl⟩
  rw [hR] at hl hlm ⊢
  have hq : (R != 0) = true := by simpa using hl
  obtain ⟨n, hn⟩ : ∃ n, b.length = n := ⟨_, rfl⟩
  obtain ⟨ns, hns⟩ : ∃ n, slots.length = n := ⟨_, rfl⟩
  rw [hn, hns] at hlm ⊢
  have HL := Lib.hid hlm
  have HB0 := Lib.hid hb0
  have HRB := Lib.hid (Blk.new w 32 #[.int .i64 0, .int .i64 0, .int .i64 0, .int .i64 0])
  clear hlm hS hR hl hn hns hb0
  go_enter Tryz.func9, Tryz.ntmps9
  go_wp2_with fail
  refine HL.out.mono ?_
  rintro e w1 ⟨rfl, rfl⟩
  go_wp2_with fail
  refine (fault20_any _ _ _).mono ?_
  rintro e w2 ⟨rfl, hb2⟩
  have hr2 := HRB.out.below hb2 HRB.out.lt
  obtain ⟨y0, y1, y2, y3, u0, u1, u2, u3⟩ := hr2.cells4
  have HR2 := Lib.hid hr2
  have HB2 := Lib.hid (HB0.out.trans (hb2.mono HB0.out.size))
  clear hb2 hr2
  go_wp2_with fail
  obtain ⟨pb, pf⟩ := put4_blk (a' := .int .i64 R) (b' := .int .i64 0) (c' := .int .i64 0) (d' := .int .i64 0) HR2.out (Nat.le_refl w.heap.size)
  refine bodyPost_ret (results_ttc rfl _ _ w.heap.size 32 #[.int .i64 R, .int .i64 0, .int .i64 0, .int .i64 0] (0, 0) _ rfl pb Tryz.underlying32 rfl fault_info) rfl ?_
  exact ⟨_, rfl, ShapesR.none_ _ _, HB2.out.trans pf.below⟩
set_option maxRecDepth 100000 in
set_option maxHeartbeats 16000000 in
theorem code20_good (hbt : BytesAt w BA b) (hS : ∀ wx, Below w.heap.size w wx → SmallsAt wx SA slots) (hl : limitsV b slots ints texts = 0) :
    Calls Tryz.prog 9 #[.slice BA b.length bc, .slice SA slots.length sc, .int .i64 ints, .int .i64 texts] w fun e w' => CodeEndR w w' e (codeR b slots ints texts) := by
  obtain ⟨p1, p2, p3, p4, p5, p6, p7, p8, p9, p10, p11⟩ := limits_pos hl
  have hb0 : Below w.heap.size w (w.alloc (.cells #[.int .i64 0, .int .i64 0, .int .i64 0, .int .i64 0] 32)) := (Below.refl _ _).alloc (Nat.le_refl _) _
  have hlm := limits20_any BA SA b slots bc sc ints texts (w.alloc (.cells #[.int .i64 0, .int .i64 0, .int .i64 0, .int .i64 0] 32)) (by omega) (by omega) (hS _ hb0)
  rw [hl] at hlm
  obtain ⟨T, hT⟩ : ∃ T, codeR b slots ints texts = T := ⟨_, rfl⟩
  rw [hT]
  rw [codeR_scan hl] at hT
  have hby := hbt.byte
  have hread := fun (o : Nat) wx (hx : Below w.heap.size w wx) => read16_any BA b bc (o : Int) wx (by omega) (hbt.below hx)
  have hnum := fun (x : Ins) wx (hx : Below w.heap.size w wx) (h0 : 0 ≤ x.a) (h1 : 0 ≤ x.b) => numbers20_any (w := wx) (SA := SA) (slots := slots) (sc := sc) (ints := ints) (texts := texts) (x := x) (hS wx hx) (by omega) h0 h1
  obtain ⟨n, hn⟩ : ∃ n, b.length = n := ⟨_, rfl⟩
  obtain ⟨ns, hns⟩ : ∃ n, slots.length = n := ⟨_, rfl⟩
  rw [hn, hns] at hlm
  rw [hn] at p1 p11 hT hread ⊢
  rw [hns] at hnum p2 p8 ⊢
  have hz0 : (w.alloc (.cells #[.int .i64 0, .int .i64 0, .int .i64 0, .int .i64 0] 32)).heap.size = w.heap.size + 1 := World.size_alloc _ _
  have hmk := make_ints n (by omega)
  obtain ⟨W1, hW1⟩ : ∃ W1, W1 = (w.alloc (.cells #[.int .i64 0, .int .i64 0, .int .i64 0, .int .i64 0] 32)).alloc (.cells (fnA n fun _ => .int .i64 0) 3) := ⟨_, rfl⟩
  have hB1 : Below w.heap.size w W1 := by rw [hW1]; exact hb0.alloc hb0.size _
  have hR1 : Blk W1 w.heap.size 32 #[.int .i64 0, .int .i64 0, .int .i64 0, .int .i64 0] := by rw [hW1]; exact (Blk.new w _ _).alloc _
  have hI1 : Blk W1 (w.heap.size + 1) 3 (fnA n fun _ => .int .i64 0) := by
    rw [hW1]
    have h := Blk.new (w.alloc (.cells #[.int .i64 0, .int .i64 0, .int .i64 0, .int .i64 0] 32)) 3 (fnA n fun _ => .int .i64 0)
    rw [hz0] at h
    exact h
  have hz1 : W1.heap.size = w.heap.size + 2 := by rw [hW1, World.size_alloc, hz0]
  have HL := Lib.hid hlm
  have HT := Lib.hid hT
  have HRD := Lib.hid hread
  have HNM := Lib.hid hnum
  have HBY := Lib.hid hby
  have HBT := Lib.hid hbt
  have HS := Lib.hid hS
  have HN := Lib.hid hn
  have HNS := Lib.hid hns
  have HB1 := Lib.hid hB1
  have HR1 := Lib.hid hR1
  have HI1 := Lib.hid hI1
  have HW1 := Lib.hid hW1
  clear hlm hS hl hn hns hread hnum hby hT hbt hb0 hB1 hR1 hI1 hW1 p3 p9 p10
  go_enter Tryz.func9, Tryz.ntmps9
  go_wp2_with fail
  refine HL.out.mono ?_
  rintro e w1 ⟨rfl, rfl⟩
  go_wp2_with fail
  (try rw [hz0])
  rw [← HW1.out]
  go_loopw [12, 14, 15, 16] (fun v12 v14 _ _ wr => ∃ (o f : Nat) (acc : List Ins) (g : Int → Int), n ≤ o + f ∧ o ≤ n + 10 ∧ v14 = .int .i64 o ∧ Hid (scanR b slots (scanV b slots ints texts f o acc) = T) ∧ ScanAt n slots ints texts acc o ∧ IsOk acc g ∧ wr.ownsRow W1.heap.size 100 5 v12 acc.length (insVals acc) ∧ Blk wr (w.heap.size + 1) 3 (fnA n fun j => .int .i64 (g (j : Int))) ∧ Frm w.heap.size TI W1 wr)
    (fun _ v14 _ _ _ => n - (intOf v14).toNat)
  case atStart => exact ⟨0, n, [], fun _ => 0, by omega, by omega, rfl, HT, ScanAt.nil _ _ _ _, IsOk.nil, World.ownsRow_nil _ _ _ _, HI1.out, Frm.refl _ _ _⟩
  case round =>
    obtain ⟨o, f, acc, g, hof, ho10, rfl, HT1, hsc, hiso, hown, hib, hfr⟩ := hrel
    have hBr := HB1.out.trans hfr.below
    have hzr := hfr.size
    obtain ⟨al, hal⟩ : ∃ al, acc.length = al := ⟨_, rfl⟩
    have hlen := hsc.len
    rw [hal] at hown hlen
    obtain ⟨A5, c5, rfl⟩ := own_form hown
    by_cases hlt : o < n
    · obtain ⟨f', rfl⟩ : ∃ f', f = f' + 1 := ⟨f - 1, by omega⟩
      have hrd := HRD.out o wr hBr
      obtain ⟨xa, xo, xA, xB, xC, er, hre⟩ : ∃ xa xo xA xB xC er, readM b (o : Int) = (⟨xa, xo, xA, xB, xC⟩, er) := ⟨_, _, _, _, _, _, rfl⟩
      rw [hre] at hrd
      simp only [Ins.cells] at hrd
      have hoI : (o : Int) < n := by omega
      have HRD1 := Lib.hid hrd
      have HRE := Lib.hid hre
      have HSC := Lib.hid hsc
      have HISO := Lib.hid hiso
      have HOWN := Lib.hid hown
      have HIB := Lib.hid hib
      have HFR := Lib.hid hfr
      have HAL := Lib.hid hal
      have HBR := Lib.hid hBr
      clear hrd hre hsc hiso hown hib hfr hal hBr
      by_cases her : er = 0
      · subst her
        have hrok := readM_ok HBY.out HRE.out
        simp only at hrok
        obtain ⟨hxo, hx0, hx1, hx2⟩ := hrok
        subst hxo
        have hnm1 := HNM.out ⟨(o : Int), xo, xA, xB, xC⟩
        simp only [Ins.cells] at hnm1
        obtain ⟨nv, hnv⟩ : ∃ nv, numbersV slots ints texts ⟨(o : Int), xo, xA, xB, xC⟩ = nv := ⟨_, rfl⟩
        simp only [hnv] at hnm1
        have HNM1 := Lib.hid hnm1
        have HNV := Lib.hid hnv
        clear hnm1 hnv
        go_wp2_with fail
        refine HRD1.out.mono ?_
        rintro e w2 ⟨rfl, hb2⟩
        have hz2 := hb2.size
        have hB2 := HBR.out.trans (hb2.mono (by omega))
        have hB2a := hB2.alloc (by omega) (.cells #[.int .i64 (o : Int), .int .u8 xo, .int .i64 xA, .int .i64 xB, .int .i64 xC] 100)
        have hx2a := Blk.new w2 100 #[.int .i64 (o : Int), .int .u8 xo, .int .i64 xA, .int .i64 xB, .int .i64 xC]
        have hb2a : Below wr.heap.size wr (w2.alloc (.cells #[.int .i64 (o : Int), .int .u8 xo, .int .i64 xA, .int .i64 xB, .int .i64 xC] 100)) := hb2.alloc hz2 _
        have HB2A := Lib.hid hB2a
        have HX2A := Lib.hid hx2a
        have HBB := Lib.hid hb2a
        clear hb2 hB2 hB2a hx2a hb2a
        go_wp2_with fail
        refine (HNM1.out _ HB2A.out hx0 hx1).mono ?_
        rintro e w3 ⟨rfl, hb3⟩
        have hz3 := hb3.size
        rw [World.size_alloc] at hz3
        have hx3 := HX2A.out.below hb3 HX2A.out.lt
        have hb30 : Below wr.heap.size wr w3 := HBB.out.trans (hb3.mono HBB.out.size)
        have hfr3 := HFR.out.trans (Frm.of_below (T := TI) hb30 (by omega))
        have hown3 := (Frm.of_below (B := 0) (T := []) hb30 (Nat.zero_le _)).own HOWN.out (by simp)
        have hib3 := HIB.out.below hb30 HIB.out.lt
        have hr3 := hfr3.blk HR1.out (by decide)
        have HX3 := Lib.hid hx3
        have HFR3 := Lib.hid hfr3
        have HOWN3 := Lib.hid hown3
        have HIB3 := Lib.hid hib3
        have HRB3 := Lib.hid hr3
        have xx0 := hx3.cell 0
        have xx1 := hx3.cell 1
        have xx2 := hx3.cell 2
        have xx3 := hx3.cell 3
        have xx4 := hx3.cell 4
        have hxlt := hx3.lt
        have HA5 := Lib.hid (fun g hg => (HOWN.out.lt g hg).2)
        clear hb3 hx3 hb30 hfr3 hown3 hib3 hr3 HBB HX2A HB2A HOWN HIB HFR HBR HRD1
        by_cases hnv0 : nv = 0
        · subst hnv0
          have hz13 : W1.heap.size ≤ w3.heap.size := by omega
          have hsz := fun wx => size16_any xo wx
          obtain ⟨si, hsi⟩ : ∃ si, sizeI xo = si := ⟨_, rfl⟩
          simp only [hsi] at hsz
          have hsb := sizeI_bd xo
          rw [hsi] at hsb hx2
          have HSZ := Lib.hid hsz
          have HSI := Lib.hid hsi
          clear hsz hsi
          go_wp2_with (at_builtin; go_loud (refine wpList_append1 insEl rfl _ _ rfl W1.heap.size w3 [.int .i64 (o : Int), .int .u8 xo, .int .i64 xA, .int .i64 xB, .int .i64 xC] rfl _ _ _ rfl HOWN3.out rfl rfl (by simp [Value.oneCell']) (by unfold maxLen; omega) (by omega) hz13 ?_; intro v4 w4 hown4 hg4; obtain ⟨A4, c4, rfl⟩ := own_form hown4; have hib4 := HIB3.out.grown hg4 (Ne.symm (own_blk_ne HOWN3.out HIB3.out (by decide))); have hx4 := HX3.out.grown hg4 (fun e => by have := HA5.out _ e.symm; omega); have x41 := hx4.cell 1; have hfr4 := HFR3.out.grownNew HOWN3.out hg4 (Nat.le_refl _) (by omega); have iz := hib4.frozen o; have ic : w4.cell? ⟨w.heap.size + 1, o, none⟩ = some (.int .i64 (g (o : Int))) := (hib4.cell o).trans (fnA_get hlt); have HOWN4 := Lib.hid hown4; have HIB4 := Lib.hid hib4; have HX4 := Lib.hid hx4; have HFR4 := Lib.hid hfr4; clear hown4 hg4 hib4 hx4 hfr4))
          refine (HSZ.out _).mono ?_
          rintro e w5 ⟨rfl, hb5⟩
          have hzs : (w4.setCell ⟨w.heap.size + 1, o, none⟩ (.int .i64 ((al : Int) + 1))).heap.size = w4.heap.size := by simp [World.setCell]
          have hz4 := HFR4.out.size
          have hfs := HFR4.out.set_ (i := o) HIB4.out (by omega) (by decide) (.int .i64 ((al : Int) + 1))
          have hf5 := hfs.trans (Frm.of_below (T := TI) hb5 (by rw [hzs]; omega))
          have hib5 := (HIB4.out.set_ o (.int .i64 ((al : Int) + 1))).below hb5 (by rw [hzs]; exact HIB4.out.lt)
          have hown5 := (Frm.of_below (B := 0) (T := []) hb5 (Nat.zero_le _)).own (own_setCell HOWN4.out (p := ⟨w.heap.size + 1, o, none⟩) (own_blk_ne HOWN4.out HIB4.out (by decide)) (.int .i64 ((al : Int) + 1))) (by simp)
          have HF5 := Lib.hid hf5
          have HIB5 := Lib.hid hib5
          have HOWN5 := Lib.hid hown5
          clear hb5 hfs hf5 hib5 hown5
          go_wp2_with fail
          go_roundw
          case rel =>
            have hm : (o : Int) + si = ((o + si.toNat : Nat) : Int) := by omega
            have hsc := HSC.out
            rw [← HN.out] at hsc
            obtain ⟨s1, s2, s3⟩ := hsc.step HBY.out HRE.out HNV.out
            rw [HN.out, HSI.out] at s1
            have e1 := scan_go (b := b) (slots := slots) (ints := ints) (texts := texts) (f := f') (o := o) (acc := acc) (by rw [HN.out]; exact hlt) (by rw [HRE.out]) (by rw [HRE.out]; exact HNV.out)
            rw [HRE.out] at e1
            simp only [HSI.out] at e1
            have e2 := HT1.out
            rw [e1] at e2
            have e3 : (acc ++ [(⟨(o : Int), xo, xA, xB, xC⟩ : Ins)]).length = al + 1 := by rw [List.length_append, HAL.out]; rfl
            have e4 := HISO.out.snoc (x := ⟨(o : Int), xo, xA, xB, xC⟩) (fun y hy => HSC.out.lt y hy)
            refine ⟨o + si.toNat, f', acc ++ [⟨(o : Int), xo, xA, xB, xC⟩], _, by omega, by omega, by rw [hm], Lib.hid e2, s1, e4, ?_, ?_, HF5.out⟩
            · rw [e3, insVals_snoc]
              exact HOWN5.out
            · have h := HIB5.out
              rw [fnA_set] at h
              have e5 : (fun j => if j = o then Value.int .i64 ((al : Int) + 1) else Value.int .i64 (g (j : Int))) = fun j : Nat => Value.int .i64 (if (j : Int) = (o : Int) then (acc.length : Int) + 1 else g (j : Int)) := by
                funext j
                by_cases hj : j = o
                · rw [if_pos hj, if_pos (by omega), HAL.out]
                · rw [if_neg hj, if_neg (by omega)]
              rw [e5] at h
              exact h
          case measure => (simp [intOf]; try omega)
        · have hq : (nv != 0) = true := by simpa using hnv0
          have hT2 := HT1.out
          rw [scan_bad2 (b := b) (slots := slots) (ints := ints) (texts := texts) (f := f') (o := o) (acc := acc) (by rw [HN.out]; exact hlt) (by rw [HRE.out]) (by rw [HRE.out, HNV.out]; exact hnv0), HRE.out, HNV.out] at hT2
          have HT2 := Lib.hid hT2
          clear hT2 xx0 xx1 xx2 xx3 xx4
          go_wp2_with fail
          refine (fault20_any _ _ _).mono ?_
          rintro e w6 ⟨rfl, hb6⟩
          have hr6 := HRB3.out.below hb6 HRB3.out.lt
          obtain ⟨y0, y1, y2, y3, u0, u1, u2, u3⟩ := hr6.cells4
          have HR6 := Lib.hid hr6
          have HF6 := Lib.hid (HFR3.out.trans (Frm.of_below (T := TI) hb6 (by have := HFR3.out.size; omega)))
          clear hb6 hr6
          go_wp2_with fail
          obtain ⟨pb, pf⟩ := put4_blk (a' := .int .i64 nv) (b' := .int .i64 (o : Int)) (c' := .int .i64 0) (d' := .int .i64 0) HR6.out (Nat.le_refl w.heap.size)
          refine bodyPost_ret (results_ttc rfl _ _ w.heap.size 32 #[.int .i64 nv, .int .i64 (o : Int), .int .i64 0, .int .i64 0] (0, 0) _ rfl pb Tryz.underlying32 rfl fault_info) rfl ?_
          rw [← HT2.out]
          exact ⟨_, rfl, ShapesR.none_ _ _, (HB1.out.trans HF6.out.below).trans pf.below⟩
      · have hq : (er == 0) = false := beq_false_of her
        have hq2 : (er != 0) = true := by simpa using her
        have hT2 := HT1.out
        rw [scan_bad1 (b := b) (slots := slots) (ints := ints) (texts := texts) (f := f') (o := o) (acc := acc) (by rw [HN.out]; exact hlt) (by rw [HRE.out]; exact her), HRE.out] at hT2
        have HT2 := Lib.hid hT2
        clear hT2 her
        go_wp2_with fail
        refine HRD1.out.mono ?_
        rintro e w2 ⟨rfl, hb2⟩
        have hfr3 := HFR.out.trans (Frm.of_below (T := TI) (hb2.alloc hb2.size (.cells #[.int .i64 xa, .int .u8 xo, .int .i64 xA, .int .i64 xB, .int .i64 xC] 100)) (by omega))
        have hrb3 := hfr3.blk HR1.out (by decide)
        have hz2 := hb2.size
        have HFR3 := Lib.hid hfr3
        have HRB3 := Lib.hid hrb3
        clear hb2 hfr3 hrb3
        go_wp2_with fail
        refine (fault20_any _ _ _).mono ?_
        rintro e w6 ⟨rfl, hb6⟩
        have hr6 := HRB3.out.below hb6 HRB3.out.lt
        obtain ⟨y0, y1, y2, y3, u0, u1, u2, u3⟩ := hr6.cells4
        have HR6 := Lib.hid hr6
        have HF6 := Lib.hid (HFR3.out.trans (Frm.of_below (T := TI) hb6 (by have := HFR3.out.size; omega)))
        clear hb6 hr6
        go_wp2_with fail
        obtain ⟨pb, pf⟩ := put4_blk (a' := .int .i64 er) (b' := .int .i64 (o : Int)) (c' := .int .i64 0) (d' := .int .i64 0) HR6.out (Nat.le_refl w.heap.size)
        refine bodyPost_ret (results_ttc rfl _ _ w.heap.size 32 #[.int .i64 er, .int .i64 (o : Int), .int .i64 0, .int .i64 0] (0, 0) _ rfl pb Tryz.underlying32 rfl fault_info) rfl ?_
        rw [← HT2.out]
        exact ⟨_, rfl, ShapesR.none_ _ _, (HB1.out.trans HF6.out.below).trans pf.below⟩
    · have hT2 := HT1.out
      rw [scan_end (by rw [HN.out]; omega)] at hT2
      have HT2 := Lib.hid hT2
      have hsc2 : (insAt acc 0).isSome = true := by
        rcases hsc.zero with h | h
        · omega
        · exact h
      have hjm := fun (j : Nat) (e : Int × Int) (h : jumpsV acc (acc.drop j) = some e) (h2 : jumpsV acc (acc.drop j) = jumpsV acc acc) => (show T = ([], 0, e.1, e.2) by rw [← hT2]; show tailR b slots acc = _; unfold tailR; rw [← h2, h])
      have HJM := Lib.hid hjm
      have HSC := Lib.hid hsc
      have HISO := Lib.hid hiso
      have HOWN := Lib.hid hown
      have HIB := Lib.hid hib
      have HFR := Lib.hid hfr
      have HAL := Lib.hid hal
      have HBR := Lib.hid hBr
      have HSC2 := Lib.hid hsc2
      obtain ⟨Wc, hWc⟩ : ∃ Wc, Wc = wr := ⟨_, rfl⟩
      have hzc : Wc.heap.size = wr.heap.size := by rw [hWc]
      have hal1 : al ≤ n + 10 := by omega
      rw [← hWc] at HOWN HIB HFR HBR
      have HWC := Lib.hid hWc
      clear hT2 hsc hiso hown hib hfr hal hBr hjm hsc2 hWc
      go_wp2_with fail
      go_loopw [17, 18] (fun v17 _ wr => ∃ j : Nat, j ≤ al ∧ v17 = .int .i64 j ∧ Hid (jumpsV acc (acc.drop j) = jumpsV acc acc) ∧ Below Wc.heap.size Wc wr) (fun v17 _ _ => al - (intOf v17).toNat)
      case atStart => exact ⟨0, by omega, rfl, Lib.hid rfl, by rw [HWC.out]; exact Below.refl _ _⟩
      case round =>
        obtain ⟨j, hj, rfl, HJ, hbe⟩ := hrel
        by_cases hjl : j < al
        · obtain ⟨x, hx⟩ : ∃ x, acc[j]? = some x := ⟨_, List.getElem?_eq_getElem (by rw [HAL.out]; exact hjl)⟩
          have hown := (Frm.of_below (B := 0) (T := []) hbe (Nat.zero_le _)).own HOWN.out (by simp)
          have hib := HIB.out.below hbe HIB.out.lt
          obtain ⟨gl, rfl, hgl, q0, q1, q2, q3, q4⟩ := ins_cells hown hx
          have hiok := HSC.out.ok x (List.mem_of_getElem? hx)
          have hdr : acc.drop j = x :: acc.drop (j + 1) := by
            rw [List.drop_eq_getElem_cons (by rw [HAL.out]; exact hjl)]
            rw [List.getElem?_eq_getElem (by rw [HAL.out]; exact hjl)] at hx
            injection hx with hx
            rw [hx]
          have hjs := jumps_step (l := acc) (r := acc.drop (j + 1)) (x := x)
          rw [← hdr] at hjs
          have htg := fun wx => target20_any x wx
          obtain ⟨tv, htv⟩ : ∃ tv, targetV x = tv := ⟨_, rfl⟩
          have htp := fun tg (h : targetV x = some tg) => hiok.tg h
          simp only [htv] at htg hjs htp
          obtain ⟨xa, xo, xA, xB, xC⟩ := x
          simp only [Ins.cells] at htg q0 q1 q2 q3 q4 hjs
          have hjI : (j : Int) < al := by omega
          have HTG := Lib.hid htg
          have HJS := Lib.hid hjs
          have HTP := Lib.hid htp
          have HBE := Lib.hid hbe
          have HIB2 := Lib.hid hib
          have HOK := Lib.hid hiok
          clear hx hown hib hiok hdr hjs htg htv htp hbe
          go_wp2_with fail
          refine (HTG.out _).mono ?_
          rintro e wt ⟨rfl, hbt⟩
          have hbt2 : Below wr.heap.size wr wt := by rw [← hbt]; exact (Below.refl _ _).alloc (Nat.le_refl _) _
          have q0t : wt.cell? ⟨gl, j * 5, none⟩ = some (.int .i64 xa) := (hbt2.cell (p := ⟨gl, _, none⟩) hgl).trans q0
          have hbe2 := HBE.out.trans (hbt2.mono HBE.out.size)
          have hibt := HIB2.out.below hbt2 HIB2.out.lt
          have HBE2 := Lib.hid hbe2
          have HIBT := Lib.hid hibt
          have HFR3 := Lib.hid (HFR.out.trans (Frm.of_below (T := TI) hbe2 (by have := HFR.out.size; omega)))
          have HRB3 := Lib.hid (HFR3.out.blk HR1.out (by decide))
          clear hbt hbt2 hbe2 hibt q0 q1 q2 q3 q4
          cases tv with
          | none =>
            simp only [Option.getD_none]
            go_wp2_with fail
            go_roundw
            case rel => exact ⟨j + 1, by omega, by go_num, Lib.hid (by rw [← HJ.out, HJS.out]), HBE2.out⟩
            case measure => (simp [intOf]; try omega)
          | some tg =>
            simp only [Option.getD_some]
            have htg0 : 0 ≤ tg := HTP.out tg rfl
            have dtg : decide (0 ≤ tg) = true := by simpa using htg0
            obtain ⟨t, rfl⟩ := Int.eq_ofNat_of_zero_le htg0
            by_cases htn : n ≤ t
            · have d1 : decide ((n : Int) ≤ (t : Int)) = true := by simp only [decide_eq_true_eq]; omega
              have hno : insAt acc (t : Int) = none := by
                cases hq : insAt acc (t : Int) with
                | none => rfl
                | some y =>
                  obtain ⟨hm, he⟩ := insAt_mem hq
                  have := (HSC.out.ok y hm).lt
                  omega
              have HT3 := Lib.hid (HJM.out j (44, xa) (by rw [HJS.out]; simp only [hno]; rfl) HJ.out)
              clear hno
              go_wp2_with fail
              refine (fault20_any _ _ _).mono ?_
              rintro e w6 ⟨rfl, hb6⟩
              have hr6 := HRB3.out.below hb6 HRB3.out.lt
              obtain ⟨y0, y1, y2, y3, u0, u1, u2, u3⟩ := hr6.cells4
              have HR6 := Lib.hid hr6
              have HF6 := Lib.hid (HFR3.out.trans (Frm.of_below (T := TI) hb6 (by have := HFR3.out.size; omega)))
              clear hb6 hr6
              go_wp2_with fail
              obtain ⟨pb, pf⟩ := put4_blk (a' := .int .i64 44) (b' := .int .i64 xa) (c' := .int .i64 0) (d' := .int .i64 0) HR6.out (Nat.le_refl w.heap.size)
              refine bodyPost_ret (results_ttc rfl _ _ w.heap.size 32 #[.int .i64 44, .int .i64 xa, .int .i64 0, .int .i64 0] (0, 0) _ rfl pb Tryz.underlying32 rfl fault_info) rfl ?_
              rw [HT3.out]
              exact ⟨_, rfl, ShapesR.none_ _ _, (HB1.out.trans HF6.out.below).trans pf.below⟩
            · have d1 : decide ((n : Int) ≤ (t : Int)) = false := by simp only [decide_eq_false_iff_not]; omega
              have htlt : t < n := by omega
              have htI : (t : Int) < n := by omega
              have ci := HIBT.out.cell t
              rw [fnA_get htlt] at ci
              rcases HISO.out (t : Int) with ⟨hno, hg0⟩ | ⟨i, y, hys, hgi, _⟩
              · rw [hg0] at ci
                have HT3 := Lib.hid (HJM.out j (44, xa) (by rw [HJS.out]; simp only [hno]; rfl) HJ.out)
                clear hno hg0
                go_wp2_with fail
                refine (fault20_any _ _ _).mono ?_
                rintro e w6 ⟨rfl, hb6⟩
                have hr6 := HRB3.out.below hb6 HRB3.out.lt
                obtain ⟨y0, y1, y2, y3, u0, u1, u2, u3⟩ := hr6.cells4
                have HR6 := Lib.hid hr6
                have HF6 := Lib.hid (HFR3.out.trans (Frm.of_below (T := TI) hb6 (by have := HFR3.out.size; omega)))
                clear hb6 hr6
                go_wp2_with fail
                obtain ⟨pb, pf⟩ := put4_blk (a' := .int .i64 44) (b' := .int .i64 xa) (c' := .int .i64 0) (d' := .int .i64 0) HR6.out (Nat.le_refl w.heap.size)
                refine bodyPost_ret (results_ttc rfl _ _ w.heap.size 32 #[.int .i64 44, .int .i64 xa, .int .i64 0, .int .i64 0] (0, 0) _ rfl pb Tryz.underlying32 rfl fault_info) rfl ?_
                rw [HT3.out]
                exact ⟨_, rfl, ShapesR.none_ _ _, (HB1.out.trans HF6.out.below).trans pf.below⟩
              · have hq0 : (g (t : Int) == 0) = false := by rw [hgi]; simp only [beq_eq_false_iff_ne, ne_eq]; omega
                have hys2 : (insAt acc (t : Int)).isSome = true := by rw [hys]; rfl
                have HYS := Lib.hid hys2
                clear hys hgi hys2
                go_wp2_with fail
                go_roundw
                case rel => exact ⟨j + 1, by omega, by go_num, Lib.hid (by rw [← HJ.out, HJS.out]; simp only [HYS.out, if_true]), HBE2.out⟩
                case measure => (simp [intOf]; try omega)
        · have he : j = al := by omega
          subst he
          have hjn : jumpsV acc acc = none := by rw [← HJ.out, List.drop_of_length_le (by rw [HAL.out]; exact Nat.le_refl _)]; rfl
          have HJN := Lib.hid hjn
          have HBE := Lib.hid hbe
          clear hbe hjn
          have hmb := make_bools n (by omega)
          have hmr := make_rows n (by omega)
          have hBwr : w.heap.size ≤ wr.heap.size := by have h1 := HBE.out.size; have h2 := HFR.out.size; omega
          go_wp2_with fail
          go_cut [19] (fun v19 wx => KAt wr wx w.heap.size n (.slice SA ns sc) v19)
          case first =>
            clear HJN HBE HJM HSC HISO HOWN HIB HFR HAL HBR HSC2 HWC HT1 HT2 HL HT HRD HNM HBY HBT HS HN HNS HB1 HR1 HI1 HW1 hmk
            go_region_held3 (fun w' => True) (first | trivial) ((first | fail))
            all_goals
              go_wp2_with fail
              go_meet
              first
                | exact KAt.new hBwr (by omega) (three _ _ _ _).2.2.2.1 (three _ _ _ _).1 (three _ _ _ _).2.1 (three _ _ _ _).2.2.1 (three _ _ _ _).2.2.2.2
                | exact KAt.new hBwr (by omega) (three _ _ _ _).2.2.2.1 (three _ _ _ _).2.2.1 (three _ _ _ _).2.1 (three _ _ _ _).1 (three _ _ _ _).2.2.2.2
                | exact KAt.new hBwr (by omega) (three _ _ _ _).2.2.2.1 (three _ _ _ _).1 (three _ _ _ _).2.2.1 (three _ _ _ _).2.1 (three _ _ _ _).2.2.2.2
                | exact KAt.new hBwr (by omega) (three _ _ _ _).2.2.2.1 (three _ _ _ _).2.2.1 (three _ _ _ _).1 (three _ _ _ _).2.1 (three _ _ _ _).2.2.2.2
                | exact KAt.new hBwr (by omega) (three _ _ _ _).2.2.2.1 (three _ _ _ _).2.1 (three _ _ _ _).1 (three _ _ _ _).2.2.1 (three _ _ _ _).2.2.2.2
                | exact KAt.new hBwr (by omega) (three _ _ _ _).2.2.2.1 (three _ _ _ _).2.1 (three _ _ _ _).2.2.1 (three _ _ _ _).1 (three _ _ _ _).2.2.2.2
          case rest =>
            obtain ⟨kb, hb, tb, eb, rfl, hL, hbk⟩ := hcut
            obtain ⟨hL0, hf0⟩ := hL.start p11
            have ch := hL.cells
            obtain ⟨k0, k1, k2, k3, k4⟩ := ch
            have kh := (hL.at_ p11).1
            have kz := hL.has.frozen 0
            obtain ⟨W9, hW9⟩ : ∃ W9, W9 = wc.setCell ⟨hb, 0, none⟩ (.bool true) := ⟨_, rfl⟩
            rw [← hW9] at hL0 hf0
            have hbc : Below Wc.heap.size Wc wc := HBE.out.trans (hbk.mono HBE.out.size)
            have hfc : Frm w.heap.size TL Wc W9 := (Frm.of_below (T := TL) hbc (by have := HFR.out.size; omega)).trans hf0
            have hz9 : w.heap.size ≤ W9.heap.size := by have h1 := hfc.size; have h2 := HFR.out.size; omega
            have hib9 := hfc.blk HIB.out (by decide)
            have hown9 := hfc.own HOWN.out (by decide)
            have hrb9 := hfc.blk (HFR.out.blk HR1.out (by decide)) (by decide)
            have hB9 : Below w.heap.size w W9 := HBR.out.trans hfc.below
            have hjo := jumps_ok HJN.out
            have hT3 : tailT n (loopR n slots acc n startV.stacks (fun _ => false)) = T := by
              have h := HT2.out
              rw [← h]
              show _ = tailR b slots acc
              rw [tailR_T HJN.out, HN.out]
            obtain ⟨E, hE⟩ : ∃ E, loopR n slots acc n startV.stacks (fun _ => false) = E := ⟨_, rfl⟩
            have hrs := rest_start n slots acc
            rw [hE] at hrs hT3
            have HL9 := Lib.hid hL0
            have HIB9 := Lib.hid hib9
            have HOWN9 := Lib.hid hown9
            have HRB9 := Lib.hid hrb9
            have HB9 := Lib.hid hB9
            have HJO := Lib.hid hjo
            have HT3 := Lib.hid hT3
            have HRS := Lib.hid hrs
            have HW9 := Lib.hid hW9
            have HSO := Lib.hid (SOk.start (len := n) HSC2.out)
            have ho9 : n ≤ o := by omega
            clear hL hL0 hf0 hbc hfc hib9 hown9 hrb9 hB9 hjo hT3 hrs hW9 hbk HJN HBE HJM HOWN HIB HFR HBR HWC HL HT HRD HNM HR1 HI1 HW1 hmk hE HT1 HT2
            go_wp2_with fail
            rw [← HW9.out]
            go_loopw [20, 21] (fun v20 _ wr => ∃ m, QAt W9 wr w.heap.size kb hb tb eb n (.slice SA ns sc) slots acc E v20 m) (fun v20 _ wr => least fun m => QAt W9 wr w.heap.size kb hb tb eb n (.slice SA ns sc) slots acc E v20 m)
            case atStart => exact ⟨_, 0, _, _, rfl, by omega, HL9.out, HRS.out, HSO.out, fun j hj => by omega, Frm.refl _ _ _, rfl⟩
            case round =>
              have hsp := least_spec hrel
              obtain ⟨m, hm⟩ : ∃ m, m = least (fun m => QAt W9 wr w.heap.size kb hb tb eb n (.slice SA ns sc) slots acc E u20 m) := ⟨_, rfl⟩
              rw [← hm] at hsp
              obtain ⟨⟨a, st, seen, rfl, han, hL, hre, hso, hsk, hfr, hmm⟩, _⟩ := hsp
              have HM := Lib.hid hm
              have HMM := Lib.hid hmm
              have HSK := Lib.hid hsk
              have HRE := Lib.hid hre
              have HSO2 := Lib.hid hso
              have HFR := Lib.hid hfr
              clear hm hmm hsk hre hso hrel
              by_cases hal : a < n
              · obtain ⟨k0, k1, k2, k3, k4⟩ := hL.cells
                obtain ⟨c1, c2, _⟩ := hL.at_ hal
                have kz := hL.seen.frozen a
                have haI : (a : Int) < n := by omega
                obtain ⟨q1, hq1⟩ : ∃ q, (st (a : Int)).isSome = q := ⟨_, rfl⟩
                obtain ⟨q2, hq2⟩ : ∃ q, seen (a : Int) = q := ⟨_, rfl⟩
                rw [hq1] at c1
                rw [hq2] at c2
                have HQ1 := Lib.hid hq1
                have HQ2 := Lib.hid hq2
                have HLK := Lib.hid hL
                clear hq1 hq2 hL hfr
                have hskip : (q1 && !q2) = false → ∃ m2, QAt W9 wr w.heap.size kb hb tb eb n (.slice SA ns sc) slots acc E (.int .i64 ((a : Int) + 1)) m2 ∧ m2 < m := fun hq => by
                  refine ⟨cntU n seen * (n + 1) + (n - (a + 1)), ⟨a + 1, st, seen, by go_num, by omega, HLK.out, HRE.out, HSO2.out, fun j hj => ?_, HFR.out, rfl⟩, by rw [HMM.out]; omega⟩
                  by_cases hja : j = a
                  · rw [hja, HQ1.out, HQ2.out]; exact hq
                  · exact HSK.out j (by omega)
                cases q1 with
                | false =>
                  obtain ⟨m2, hm2, hlt⟩ := hskip rfl
                  have HM2 := Lib.hid hm2
                  clear hskip hm2
                  go_wp2_with fail
                  go_roundw
                  case rel => exact ⟨m2, HM2.out⟩
                  case measure => exact least_lt HM.out HM2.out hlt
                | true =>
                  cases q2 with
                  | true =>
                    obtain ⟨m2, hm2, hlt⟩ := hskip rfl
                    have HM2 := Lib.hid hm2
                    clear hskip hm2
                    go_wp2_with fail
                    go_roundw
                    case rel => exact ⟨m2, HM2.out⟩
                    case measure => exact least_lt HM.out HM2.out hlt
                  | false =>
                    clear hskip
                    obtain ⟨hLm, hfm⟩ := HLK.out.mark a
                    have hfm9 := HFR.out.trans hfm
                    obtain ⟨i, x, hins, hgi, hxi⟩ : ∃ (i : Nat) (x : Ins), insAt acc (a : Int) = some x ∧ g (a : Int) = (i : Int) + 1 ∧ acc[i]? = some x := by
                      rcases HISO.out (a : Int) with ⟨h1, _⟩ | h1
                      · have h2 := HSO2.out.cov (a : Int) HQ1.out
                        rw [h1] at h2
                        cases h2
                      · exact h1
                    have hown := hfm9.own HOWN9.out (by decide)
                    obtain ⟨gl, rfl, hgl, _⟩ := ins_cells hown hxi
                    obtain ⟨ci, l0, l1, l2, l3, l4⟩ := lcells HIB9.out HOWN9.out hxi hal hfm9
                    rw [hgi] at ci
                    have hij : i < j := by have h := (List.getElem?_eq_some_iff.1 hxi).1; rw [HAL.out] at h; exact h
                    have hijI : (i : Int) < j := by omega
                    have hsub : (i : Int) + 1 - 1 = i := by omega
                    obtain ⟨hmx, hatx⟩ := insAt_mem hins
                    have hiok := HSC.out.ok x hmx
                    have hsl2 := HSO2.out.high
                    have hat := fun (wz : World) (hz : Below (wr.setCell ⟨eb, a, none⟩ (.bool true)).heap.size (wr.setCell ⟨eb, a, none⟩ (.bool true)) wz) => at20_any wz w.heap.size kb hb tb eb n SA slots sc ints texts st (seenV seen (a : Int)) x (by rw [HNS.out]; exact hLm.below hz) (HS.out wz ((HB9.out.trans hfm9.below).trans (hz.mono (by have := hfm9.size; omega)))) (by rw [HNS.out]; omega) hiok.at_ok (by omega) (by have := hfm9.size; have := hz.size; omega) hsl2
                    have hstep := rest_step HRE.out hal HQ1.out HQ2.out HSK.out hins
                    have hso3 := HSO2.out.look HSC.out ho9 HJO.out hmx
                    obtain ⟨st2, e2, hlk⟩ : ∃ st2 e2, lookS n slots x st = (st2, e2) := ⟨_, _, rfl⟩
                    have hbad := fun (e0 o0 : Int) (h : e2 = some (e0, o0)) => (look_bad (len := n) (v := ⟨st, [], 0⟩) (slots := slots) (x := x) (e := e0) (a := o0) hiok.at_ok.at0 hiok.at_ok.next hiok.at_ok.tg (by have h9 := congrArg Prod.snd hlk; exact h9.trans h)).1
                    have HBAD := Lib.hid hbad
                    rw [hlk] at hstep hso3
                    simp only [hlk] at hat
                    rw [HNS.out] at hat
                    have hcu := cntU_lt HQ2.out n hal
                    obtain ⟨xa, xo, xA, xB, xC⟩ := x
                    simp only [Ins.cells] at hat l0 l1 l2 l3 l4
                    have HAT := Lib.hid hat
                    have HSTEP := Lib.hid hstep
                    have HSO3 := Lib.hid hso3
                    have HFM := Lib.hid hfm9
                    have HCU := Lib.hid hcu
                    clear hLm hfm hfm9 hins hgi hxi hown hmx hatx hiok hsl2 hat hstep hso3 hlk hcu hbad
                    go_wp2_with fail
                    refine (HAT.out _ (Below.refl _ _)).mono ?_
                    rintro e w6 ⟨rfl, hL6, hf6⟩
                    have HF6 := Lib.hid (HFM.out.trans hf6)
                    have HL6 := Lib.hid hL6
                    clear hL6 hf6 HAT ci l0 l1 l2 l3 l4
                    have hnq := neq_fault
                    cases e2 with
                    | some p =>
                      obtain ⟨e0, o0⟩ := p
                      simp only [faultV]
                      have he0 : (e0 == 0) = false := by simp only [beq_eq_false_iff_ne, ne_eq]; exact HBAD.out e0 o0 rfl
                      have HTE := Lib.hid (show T = ([], 0, e0, o0) by rw [← HT3.out, HSTEP.out.1 (e0, o0) rfl]; rfl)
                      have hr6 := HF6.out.blk HRB9.out (by decide)
                      have hz6 := HF6.out.size
                      have hr7 := hr6.alloc (.cells #[.int .i64 e0, .int .i64 o0, .int .i64 0, .int .i64 0] 32)
                      obtain ⟨y0, y1, y2, y3, u0, u1, u2, u3⟩ := hr7.cells4
                      have HR7 := Lib.hid hr7
                      have HF7 := Lib.hid (HF6.out.alloc (by omega) (.cells #[.int .i64 e0, .int .i64 o0, .int .i64 0, .int .i64 0] 32))
                      clear hr6 hr7
                      (try clear HRE); (try clear HSO2); (try clear HSK); (try clear HM); (try clear HMM); (try clear HFR); (try clear HSC); (try clear HISO); (try clear HSC2); (try clear HAL); (try clear HRS); (try clear HSO); (try clear HJO); (try clear HT3); (try clear HIB9); (try clear HOWN9); (try clear HRB9); (try clear HL9); (try clear HW9); (try clear HBY); (try clear HBT); (try clear HS); (try clear HN); (try clear HNS); (try clear HB1); (try clear HBAD); (try clear HSTEP); (try clear HSO3); (try clear HFM); (try clear HCU); (try clear HL6); (try clear HF6); (try clear HLK); (try clear HQ1); (try clear HQ2); (try clear p4); (try clear p5); (try clear p6); (try clear p7); (try clear p8); (try clear p2); (try clear hz0); (try clear hz1); (try clear hmb); (try clear hmr); (try clear hBwr); (try clear ho9); (try clear hzc); (try clear hal1); (try clear hzr); (try clear hof); (try clear ho10); (try clear hlt); (try clear hjl); (try clear hj); (try clear k0); (try clear k1); (try clear k2); (try clear k3); (try clear k4); (try clear c1); (try clear c2); (try clear kz)
                      obtain ⟨f0, f1, f2, f3, _, _, _, _⟩ := (Blk.new w6 32 #[.int .i64 e0, .int .i64 o0, .int .i64 0, .int .i64 0]).cells4
                      go_wp2_with fail
                      refine wp_region_text (by kernel_rfl) (by kernel_rfl) ?_
                      go_wp2_with fail
                      refine Only.normal ?_
                      go_wp2_with fail
                      obtain ⟨pb, pf⟩ := put4_blk (a' := .int .i64 e0) (b' := .int .i64 o0) (c' := .int .i64 0) (d' := .int .i64 0) HR7.out (Nat.le_refl w.heap.size)
                      refine bodyPost_ret (results_ttc rfl _ _ w.heap.size 32 #[.int .i64 e0, .int .i64 o0, .int .i64 0, .int .i64 0] (0, 0) _ rfl pb.drew Tryz.underlying32 rfl fault_info) rfl ?_
                      rw [HTE.out]
                      exact ⟨_, rfl, ShapesR.none_ _ _, ((HB9.out.trans HF7.out.below).trans pf.below).drew⟩
                    | none =>
                      simp only [faultV]
                      have hre2 := HSTEP.out.2 rfl
                      have hz6 := HF6.out.size
                      have hqa : QAt W9 (w6.alloc (.cells #[.int .i64 0, .int .i64 0, .int .i64 0, .int .i64 0] 32)) w.heap.size kb hb tb eb n (.slice SA ns sc) slots acc E (.int .i64 0) (cntU n (seenV seen (a : Int)) * (n + 1) + (n - 0)) :=
                        ⟨0, st2, _, rfl, by omega, HL6.out.below ((Below.refl _ _).alloc (Nat.le_refl _) _), hre2, HSO3.out, fun j hj => by omega, HF6.out.alloc (by omega) _, rfl⟩
                      have hml := Nat.mul_le_mul_right (n + 1) HCU.out
                      rw [Nat.add_mul, Nat.one_mul] at hml
                      have hlt2 : cntU n (seenV seen (a : Int)) * (n + 1) + (n - 0) < m := by rw [HMM.out]; omega
                      have HQA := Lib.hid hqa
                      clear hre2 hqa hml
                      go_wp2_with fail
                      go_roundw
                      case rel => exact ⟨_, HQA.out⟩
                      case measure => exact least_lt HM.out HQA.out hlt2
              · have he : a = n := by omega
                subst he
                have hE2 := rest_end HRE.out HSK.out
                have hTE : T = (shapesV a st, highV (shapesV a st), 0, 0) := by rw [← HT3.out, hE2]; rfl
                have hrb := hfr.blk HRB9.out (by decide)
                have hBw := HB9.out.trans hfr.below
                have hz10 := hfr.size
                have HTE := Lib.hid hTE
                have HL10 := Lib.hid hL
                have HRB10 := Lib.hid hrb
                have HBW := Lib.hid hBw
                clear hE2 hTE hrb hBw hL hfr
                obtain ⟨W10, hW10⟩ : ∃ W10, W10 = wr := ⟨_, rfl⟩
                have hz11 : w.heap.size ≤ W10.heap.size := by rw [hW10]; omega
                rw [← hW10] at HL10 HRB10 HBW
                have HO0 := Lib.hid (show OAt W10 wr w.heap.size a st (.slice none 0 0) (.int .i64 0) (.int .i64 0) from ⟨0, [], by omega, rfl, rfl, World.ownsRow_nil _ _ _ _, rfl, fun i x p h => by simp at h, by rw [hW10]; exact Frm.refl _ _ _⟩)
                clear hW10
                go_wp2_with fail
                go_loopw [22, 23, 24] (fun v22 v23 v24 wr => OAt W10 wr w.heap.size a st v22 v23 v24) (fun _ _ v24 _ => a - (intOf v24).toNat)
                case atStart => exact HO0.out
                case round =>
                  obtain ⟨c, ls, hca, rfl, hll, hown, rfl, hsh, hf⟩ := hrel
                  obtain ⟨A8, c8, rfl⟩ := own_form hown
                  have hL := HL10.out.keep hf
                  by_cases hlt2 : c < a
                  · obtain ⟨k0, k1, k2, k3, k4⟩ := hL.cells
                    obtain ⟨c1, _, Ax, cx, ct, hox⟩ := hL.at_ hlt2
                    have hcI : (c : Int) < a := by omega
                    have hsucc := shapes_succ c st
                    have hslen := shapes_length c st
                    have h256 := HSO2.out.get (c : Int)
                    cases hst : st (c : Int) with
                    | none =>
                      rw [hst] at c1 hsucc
                      simp only [Option.isSome_none, List.append_nil] at c1 hsucc
                      have HRR := Lib.hid (show OAt W10 wr w.heap.size a st (.slice A8 ls.length c8) (.int .i64 (highV (shapesV c st))) (.int .i64 ((c : Int) + 1)) from ⟨c + 1, ls, by omega, by go_num, by rw [hsucc]; exact hll, hown, by rw [hsucc], by rw [hsucc]; exact hsh, hf⟩)
                      clear hL hown hsh hf hsucc hst hox ct
                      go_wp2_with fail
                      go_roundw
                      case rel => exact HRR.out
                      case measure => (simp [intOf]; try omega)
                    | some s =>
                      rw [hst] at c1 hsucc ct hox h256
                      simp only [Option.isSome_some, Option.getD_some] at c1 ct hox h256
                      obtain ⟨sl, hsl⟩ : ∃ k, s.length = k := ⟨_, rfl⟩
                      obtain ⟨nl, hnl⟩ : ∃ k, ls.length = k := ⟨_, rfl⟩
                      obtain ⟨hi, hhi⟩ : ∃ k, highV (shapesV c st) = k := ⟨_, rfl⟩
                      have hhs : highV (shapesV (c + 1) st) = max hi (sl : Int) := by rw [hsucc, high_snoc, hhi, hsl]
                      have hnl1 : nl ≤ c := by rw [← hnl, hll]; exact hslen
                      rw [hsl] at ct
                      rw [hnl] at hown
                      have hox2 := hox
                      have hk3 : wr.cell? ⟨kb, 3, none⟩ = some (.slice (some ⟨tb, 0, none⟩) a a) := k3
                      have hrr := fun (v8 : Value) (w7 : World) (q : Int) (hq : q = max hi (sl : Int)) (ho7 : w7.ownsRow W10.heap.size 118 2 v8 (nl + 1) (shVals ls ++ [.int .i64 (c : Int), .slice Ax sl cx])) (hf7 : Frm w.heap.size [] W10 w7) (hf8 : Frm 0 [118] wr w7) => (show OAt W10 w7 w.heap.size a st v8 (.int .i64 q) (.int .i64 ((c : Int) + 1)) from by
                        refine ⟨c + 1, ls ++ [⟨(c : Int), Ax, sl, cx, ⟨by omega, by omega⟩⟩], by omega, by go_num, ?_, ?_, by rw [hhs, hq], ?_, hf7⟩
                        · rw [hsucc, List.length_append, List.length_append, hll]; rfl
                        · rw [shVals_snoc, List.length_append, hnl]; exact ho7
                        · intro i x p hx hp
                          rw [hsucc] at hp
                          by_cases hi2 : i < ls.length
                          · rw [List.getElem?_append_left hi2] at hx
                            rw [List.getElem?_append_left (by omega)] at hp
                            exact (hsh i x p hx hp).frm hf8 (by decide)
                          · rw [List.getElem?_append_right (by omega)] at hx
                            rw [List.getElem?_append_right (by omega)] at hp
                            obtain ⟨z, hz⟩ : ∃ z, i - ls.length = z := ⟨_, rfl⟩
                            rw [hz] at hx
                            rw [← hll, hz] at hp
                            cases z with
                            | succ z => simp at hx
                            | zero =>
                              simp only [List.getElem?_cons_zero] at hx hp
                              injection hx with hx
                              injection hp with hp
                              subst hx hp
                              exact ⟨rfl, hsl.symm, hf8.own (by rw [hsl]; rw [hsl] at hox2; exact hox2) (by decide)⟩)
                      have HRR := Lib.hid hrr
                      have HOWN := Lib.hid hown
                      have HF := Lib.hid hf
                      have HL := Lib.hid hL
                      have hz12 := hf.size
                      rw [hnl, hhi]
                      clear hrr hown hf hsucc hst hox hox2 hsh hll hnl hhi hhs hsl hL
                      go_wp2_with (at_builtin; go_loud (refine wpList_append1 (base := W10.heap.size) (wr := wr) (us := [.int .i64 (c : Int), .slice Ax sl cx]) shapeR_el rfl _ _ rfl rfl (v := .slice A8 nl c8) (n := nl) (xs := shVals ls) rfl HOWN.out rfl rfl (by simp [Value.oneCell']) (by unfold maxLen; omega) (by omega) hz12 ?_; intro v8 w7 hown7 hg7; have hf7 := HF.out.grownNew HOWN.out hg7 (Nat.le_refl _) (by omega); have hf8 := (Frm.refl 0 [118] wr).grown HOWN.out hg7 (Nat.zero_le _) (Nat.zero_le _) (by simp); have hck := hf8.blk HL.out.ck (by decide); have k37 : w7.cell? ⟨kb, 3, none⟩ = some (.slice (some ⟨tb, 0, none⟩) a a) := hck.cell 3; have ct7 : w7.cell? ⟨tb, c, none⟩ = some (.slice Ax sl cx) := (by obtain ⟨F, h9, _⟩ := HL.out.stk; rw [World.cell?_of_block (w := wr) ((hf8.blk h9 (by decide)).trans h9.symm)]; exact ct); have HO7 := Lib.hid hown7; have HF7 := Lib.hid hf7; have HF8 := Lib.hid hf8; clear hown7 hg7 hf7 hf8 hck))
                      all_goals
                        go_roundw
                        case rel => exact HRR.out _ _ _ (by omega) HO7.out HF7.out HF8.out
                        case measure => (simp [intOf]; try omega)
                  · have he : c = a := by omega
                    subst he
                    have hr7 := hf.blk HRB10.out (by simp)
                    obtain ⟨y0, y1, y2, y3, u0, u1, u2, u3⟩ := hr7.cells4
                    have HR7 := Lib.hid hr7
                    have HF7 := Lib.hid hf
                    have HOWN := Lib.hid hown
                    have HSH := Lib.hid hsh
                    have HLL := Lib.hid hll
                    have hz12 := hf.size
                    obtain ⟨hi, hhi⟩ : ∃ k, highV (shapesV c st) = k := ⟨_, rfl⟩
                    have HHI := Lib.hid hhi
                    rw [hhi]
                    clear hr7 hf hown hsh hll hhi hL
                    (try clear HRE); (try clear HSO2); (try clear HSK); (try clear HM); (try clear HMM); (try clear HFR); (try clear HO0); (try clear HL10); (try clear HRB10); (try clear HSC); (try clear HISO); (try clear HSC2); (try clear HAL); (try clear HRS); (try clear HSO); (try clear HJO); (try clear HT3); (try clear HIB9); (try clear HOWN9); (try clear HRB9); (try clear HL9); (try clear HW9); (try clear HBY); (try clear HBT); (try clear HS); (try clear HN); (try clear HNS); (try clear HB1); (try clear HB9); (try clear hnq); (try clear p4); (try clear p5); (try clear p6); (try clear p7); (try clear p8); (try clear p2); (try clear hz0); (try clear hz1); (try clear hmb); (try clear hmr); (try clear hBwr); (try clear ho9); (try clear hzc); (try clear hal1); (try clear hzr); (try clear hof); (try clear ho10); (try clear hlt); (try clear hjl); (try clear hj); (try clear hal); (try clear hsp)
                    go_wp2_with fail
                    obtain ⟨pb, pf⟩ := put4_blk (a' := .int .i64 0) (b' := .int .i64 0) (c' := .int .i64 0) (d' := .int .i64 0) HR7.out (Nat.le_refl w.heap.size)
                    refine bodyPost_ret (results_ttc rfl _ _ w.heap.size 32 #[.int .i64 0, .int .i64 0, .int .i64 0, .int .i64 0] (0, 0) _ rfl pb Tryz.underlying32 rfl fault_info) rfl ?_
                    rw [HTE.out, HHI.out]
                    exact ⟨_, rfl, ⟨ls, own_base (pf.own HOWN.out (by decide)) (by omega), HLL.out, fun i x p hx hp => (HSH.out i x p hx hp).frm pf (by decide)⟩, (HBW.out.trans HF7.out.below).trans pf.below⟩
theorem code20_any (hbt : BytesAt w BA b) (hb : b.length ≤ 281474976710656) (hs : slots.length ≤ 281474976710656) (hS : SmallsAt w SA slots) :
    Calls Tryz.prog 9 #[.slice BA b.length bc, .slice SA slots.length sc, .int .i64 ints, .int .i64 texts] w fun e w' => CodeEndR w w' e (codeV b slots ints texts) := by
  rw [← code_ref hbt.byte]
  by_cases hl : limitsV b slots ints texts = 0
  · exact code20_good w BA SA b slots bc sc ints texts hbt (fun wx h => hS.below h) hl
  · have h := code20_bad w BA SA b slots bc sc ints texts hb hs hS hl
    have e : codeR b slots ints texts = ([], 0, limitsV b slots ints texts, 0) := by unfold codeR; rw [if_pos hl]
    rw [e]
    exact h
end
end Go.Proofs.YtabpheanbomibaaGreatDoor
