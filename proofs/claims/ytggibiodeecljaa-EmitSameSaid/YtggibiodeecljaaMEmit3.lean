/- emit's maker: a jump laid; nodes. emit's maker: the table of writers, a node. -/
import Derived.Test.YtggibiodeecljaaEmit2
import Derived.Test.YtggibiodeecljaaMAble0
import Derived.IntWalk
namespace Go.Proofs.Ytggibiodeecljaa
open Go.RowKit
set_option linter.unusedVariables false

def layOne (p : Nat × Nat) (b : List Int) : List Int := (b.set p.1 (hi8 p.2)).set (p.1 + 1) (u8 p.2)
theorem layE_cons (p : Nat × Nat) (l : List (Nat × Nat)) (b : List Int) : layE (p :: l) b = layE l (layOne p b) := rfl
theorem u8Vals_set (l : List Int) (k : Nat) (v : Int) : (u8Vals l).set k (.int .u8 v) = u8Vals (l.set k v) := by simp [u8Vals, List.map_set]

set_option maxRecDepth 100000 in
set_option maxHeartbeats 1600000 in
theorem emitLay_any (B kb : Nat) (tv im tm mb : Value) (s : MS) (p q g1 g2 g3 : Nat) (w : World) (h : EK w B kb tv im tm mb s) (k1 : Blk w g1 3 #[.int .i64 q]) (k2 : Blk w g2 135 #[.pointer (some ⟨kb, 0, none⟩)]) (k3 : Blk w g3 3 #[.int .i64 p]) (hp : p + 1 < s.b.length) (hm : s.ms ≤ 1000000) (hq : q ≤ 1000000) :
    Calls Try.prog 134 #[.pointer (some ⟨g1, 0, none⟩), .pointer (some ⟨g2, 0, none⟩), .pointer (some ⟨g3, 0, none⟩)] w fun e w' => e = .returned (.tuple #[]) ∧ EK w' B kb tv im tm mb { s with b := layOne (p, q) s.b } ∧ Frm B [5] w w' := by
  obtain ⟨hB, hks⟩ := h.size
  obtain ⟨bv, lv, vals, _, kk, o1, l1, a1⟩ := h
  obtain ⟨L, hL⟩ : ∃ L, s.b.length = L := ⟨_, rfl⟩
  have hLm : L ≤ 1000000 := by unfold MS.ms at hm; omega
  rw [hL] at o1 hp
  obtain ⟨Ab, cb, rfl⟩ := own_form o1
  obtain ⟨gb, rfl⟩ : ∃ gb, Ab = some ⟨gb, 0, none⟩ := by
    obtain ⟨g, cap, e, _⟩ := o1.form (by omega)
    injection e with e
    exact ⟨g, e⟩
  have d1 : w.cell? ⟨g1, 0, none⟩ = some (.int .i64 q) := k1.cell 0
  have d2 : w.cell? ⟨g2, 0, none⟩ = some (.pointer (some ⟨kb, 0, none⟩)) := k2.cell 0
  have d3 : w.cell? ⟨g3, 0, none⟩ = some (.int .i64 p) := k3.cell 0
  have d4 : w.cell? ⟨kb, 3, none⟩ = some (.slice (some ⟨gb, 0, none⟩) L cb) := kk.cell 3
  have n1 : gb ≠ g1 := fun e => own_blk_ne o1 k1 (by decide) (by rw [← e]; rfl)
  have n2 : gb ≠ g2 := fun e => own_blk_ne o1 k2 (by decide) (by rw [← e]; rfl)
  have n3 : gb ≠ g3 := fun e => own_blk_ne o1 k3 (by decide) (by rw [← e]; rfl)
  have n4 : gb ≠ kb := fun e => own_blk_ne o1 kk (by decide) (by rw [← e]; rfl)
  have hgb := (o1.lt gb rfl).1
  obtain ⟨v0, hv0⟩ : ∃ v, (u8Vals s.b)[p]? = some v := ⟨_, List.getElem?_eq_getElem (by simp [u8Vals]; omega)⟩
  obtain ⟨v1, hv1⟩ : ∃ v, (u8Vals s.b)[p + 1]? = some v := ⟨_, List.getElem?_eq_getElem (by simp [u8Vals]; omega)⟩
  have c0 : w.cell? ⟨gb, p, none⟩ = some v0 := by rw [o1.cellAt p (by omega), hv0]
  have c1 : w.cell? ⟨gb, p + 1, none⟩ = some v1 := by rw [o1.cellAt (p + 1) (by omega), hv1]
  have z0 := o1.frozenAt p
  have z1 := o1.frozenAt (p + 1)
  have e1 : IntKind.u8.wrap ((q : Int) / 256) = hi8 q := rfl
  have e2 : IntKind.u8.wrap (q : Int) = u8 q := rfl
  have hpi : (p : Int) < L := by omega
  have hpi1 : (p : Int) + 1 < L := by omega
  have jp : p < L := by omega
  have jp1 : p + 1 < L := by omega
  have hps : IntKind.i64.wrap ((p : Int) + 1) = (p : Int) + 1 := IntWalk.i64_in _ (by omega)
  have hp0 : (0 : Int) ≤ (p : Int) + 1 := by omega
  have hpt : ((p : Int) + 1).toNat = p + 1 := by omega
  have O1 := Lib.hid o1
  have KK := Lib.hid kk
  have L1 := Lib.hid l1
  have A1 := Lib.hid a1
  have HL := Lib.hid hL
  clear o1 kk l1 a1 hL hm k1 k2 k3 hv0 hv1
  go_enter Try.func134, Try.ntmps134
  go_wp2_with fail
  go_region_held3 (fun w' => w'.cell? ⟨g1, 0, none⟩ = some (.int .i64 q) ∧ w'.cell? ⟨g2, 0, none⟩ = some (.pointer (some ⟨kb, 0, none⟩)) ∧ w'.cell? ⟨g3, 0, none⟩ = some (.int .i64 p) ∧ w'.cell? ⟨kb, 3, none⟩ = some (.slice (some ⟨gb, 0, none⟩) L cb))
    (first | exact ⟨d1, d2, d3, d4⟩ | go_keep) ((first | fail))
  all_goals go_wp2_with fail
  go_end0
  obtain ⟨W, hW⟩ : ∃ W, W = ((w.setCell ⟨gb, p, none⟩ (.int .u8 (hi8 q))).setCell ⟨gb, p + 1, none⟩ (.int .u8 (u8 q))).drew := ⟨_, rfl⟩
  rw [← hW]
  have s1 := (((O1.out.stored p (.int .u8 (hi8 q))).1).stored (p + 1) (.int .u8 (u8 q))).1.drew
  rw [← hW] at s1
  have kb1 := O1.out.2
  have fr : Frm B [5] w W := by
    obtain ⟨g0, cap0, cur, he, hb0, hg0, hfr⟩ : ∃ g0 cap0 cur, (Value.slice (some ⟨gb, 0, none⟩) L cb) = .slice (some ⟨g0, 0, none⟩) L cap0 ∧ B ≤ g0 ∧ Blk w g0 5 cur ∧ True := by
      rcases kb1 with ⟨h1, h2⟩ | ⟨g0, cap0, cur, h1, h2, h3, _⟩
      · omega
      · exact ⟨g0, cap0, cur, h1, h2, h3, trivial⟩
    injection he with he
    injection he with he
    injection he with he
    subst he
    rw [hW]
    exact (((Frm.refl B [5] w).set_ hg0 hb0 (by decide) _).set_ (hg0.set_ p _) hb0 (by decide) _).drew
  refine ⟨rfl, ⟨.slice (some ⟨gb, 0, none⟩) L cb, lv, vals, hB, ?_, ?_, ?_, fun k r hk => ?_⟩, fr⟩
  · rw [hW]
    exact ((KK.out.far (p := ⟨gb, p, none⟩) (Ne.symm n4) _).far (p := ⟨gb, p + 1, none⟩) (Ne.symm n4) _).drew
  · have e : (layOne (p, q) s.b).length = L := by simp [layOne, HL.out]
    show World.ownsRow _ B _ 1 _ (layOne (p, q) s.b).length (u8Vals (layOne (p, q) s.b))
    rw [e]
    unfold layOne
    rw [← u8Vals_set, ← u8Vals_set]
    exact s1
  · have nl : lv.ownBlock ≠ some gb := by
      intro e
      rcases kb1 with ⟨h1, h2⟩ | ⟨g0, cap0, cur, h1, h2, h3, _⟩
      · omega
      · injection h1 with h1
        injection h1 with h1
        injection h1 with h1
        subst h1
        exact own_blk_ne L1.out (g := gb) (t := 5) (cs := cur) h3 (by decide) e
    rw [hW]
    exact (own_setCell (own_setCell L1.out (p := ⟨gb, p, none⟩) nl _) (p := ⟨gb, p + 1, none⟩) nl _).drew
  · obtain ⟨v, hv, hw⟩ := A1.out k r hk
    exact ⟨v, hv, hw.frm (fr.more (by simp))⟩

/-- A node's call: what it does to the maker. -/
def NodeC (w0 : World) (B kb : Nat) (tv im tm mb : Value) (rec : Nat → MS → MS) (i : Nat) : Prop :=
  ∀ (s : MS) (w : World), Below B w0 w → EK w B kb tv im tm mb s → (rec i s).ms ≤ 1000000 →
    Calls Try.prog 82 #[.pointer (some ⟨kb, 0, none⟩), .int .i64 i] w fun e w' => e = .returned (.tuple #[]) ∧ EK w' B kb tv im tm mb (rec i s) ∧ Frm B TE w w'

set_option maxRecDepth 100000 in
set_option maxHeartbeats 1600000 in
theorem emitNodes_any (w0 : World) (B kb : Nat) (tv im tm mb : Value) (rec : Nat → MS → MS) (hgr : Grow rec) (kids : List Nat) (A : Option Addr) (n c base : Nat) (s : MS) (w : World) (hr : ∀ j ∈ kids, NodeC w0 B kb tv im tm mb rec j) (hb : Below B w0 w) (h : EK w B kb tv im tm mb s) (hm : (allE rec kids s).ms ≤ 1000000) (hk : kids.length ≤ 100000)
    (ho : w.ownsRow base 3 1 (.slice A n c) n (intVals (kids.map fun j : Nat => (j : Int)))) :
    Calls Try.prog 117 #[.pointer (some ⟨kb, 0, none⟩), .slice A n c] w fun e w' => e = .returned (.tuple #[]) ∧ EK w' B kb tv im tm mb (allE rec kids s) ∧ Frm B TE w w' := by
  obtain ⟨R, hR⟩ : ∃ R, R = allE rec kids s := ⟨_, rfl⟩
  rw [← hR] at hm ⊢
  have hin := own_ints ho
  have hnk : kids.length = n := by have := hin.2; simpa using this
  have hkn : n ≤ 100000 := by omega
  have HR := Lib.hid hR
  have HNK := Lib.hid hnk
  have HRC := Lib.hid hr
  have HB := Lib.hid hb
  have H := Lib.hid h
  have HO := Lib.hid ho
  have HGR := Lib.hid hgr
  clear hR hin hnk hr hb h ho hk hgr
  go_enter Try.func117, Try.ntmps117
  go_wp2_with fail
  go_loopw [5, 8] (fun _ iv wr => ∃ (k : Nat) (s' : MS), k ≤ n ∧ iv = .int .i64 k ∧ Hid (R = allE rec (kids.drop k) s') ∧ EK wr B kb tv im tm mb s' ∧ Frm B TE w wr) (fun _ iv _ => n - (intOf iv).toNat)
  case atStart => exact ⟨0, s, by omega, rfl, HR, H.out, Frm.refl _ _ _⟩
  case round =>
    obtain ⟨k, s', hkn2, rfl, HRk, hek, hfr⟩ := hrel
    by_cases hlt : k < n
    · obtain ⟨j, hj⟩ : ∃ j, kids[k]? = some j := ⟨_, List.getElem?_eq_getElem (by rw [HNK.out]; exact hlt)⟩
      have hKJ : (kids.map (fun j : Nat => (j : Int)))[k]? = some (j : Int) := by rw [List.getElem?_map, hj]; rfl
      obtain ⟨b, o, rfl, hbs, hcj⟩ := (own_ints (hfr.own HO.out (by decide))).1 k _ hKJ
      have hstep : R = allE rec (kids.drop (k + 1)) (rec j s') := by
        obtain ⟨hlt', e⟩ := List.getElem?_eq_some_iff.1 hj
        rw [HRk.out, List.drop_eq_getElem_cons hlt', e]
        rfl
      have hmj : (rec j s').ms ≤ 1000000 := by
        have h1 := allE_ms HGR.out (kids.drop (k + 1)) (rec j s')
        rw [← hstep] at h1
        omega
      have hcall := HRC.out j (List.mem_of_getElem? hj) s' wr (HB.out.trans hfr.below) hek hmj
      have HS := Lib.hid hstep
      have HC := Lib.hid hcall
      have HF := Lib.hid hfr
      have hkI : (k : Int) < n := by omega
      clear hj hKJ hstep hmj hcall hfr hek hbs
      go_wp2_with fail
      refine HC.out.mono ?_
      rintro e w2 ⟨rfl, h2, f2⟩
      have H2 := Lib.hid h2
      have F2 := Lib.hid (HF.out.trans f2)
      clear h2 f2
      go_wp2_with fail
      go_roundw
      case rel => exact ⟨k + 1, rec j s', by omega, by go_num, HS.out, H2.out, F2.out⟩
      case measure => (simp [intOf]; try omega)
    · have hkk : k = n := by omega
      have hfin : R = s' := by rw [HRk.out, List.drop_of_length_le (by rw [HNK.out]; omega)]; rfl
      subst hfin
      have HEK := Lib.hid hek
      have HF := Lib.hid hfr
      clear hek hfr
      go_wp2_with fail
      go_end0
      exact ⟨rfl, HEK.out, HF.out⟩
end Go.Proofs.Ytggibiodeecljaa
namespace Go.Proofs.Ytggibiodeecljaa
open Go.RowKit
set_option linter.unusedVariables false

noncomputable def key8 : KeyT Try.prog 40 Int := intKey Try.prog 40 .i8 Try.underlying40
theorem zero_writer (w : World) : (zeroValue 185).run Try.prog w = .ok (.agg #[.nilFunc]) w := by kernel_rfl
/-- The writers that capture nothing. -/
def staticF (op : Int) : Option FuncId :=
  if op = 10 then some 116 else if op = 30 then some 118 else if op = 33 then some 120 else if op = 36 then some 121 else if op = 37 then some 122
  else if op = 38 then some 123 else if op = 39 then some 123 else if op = 50 then some 124 else if op = 13 then some 125 else if op = 16 then some 125
  else if op = 14 then some 126 else if op = 15 then some 127 else if op = 49 then some 128 else if op = 19 then some 129
  else if op = 11 then some 132 else if op = 12 then some 132 else none
/-- The table of writers. -/
def TabAt (w : World) (B : Nat) (mb : Value) : Prop :=
  ∃ mk f, mb = .map (some mk) ∧ mk < B ∧ MK key8 w mk f ∧ (∀ op K, staticF op = some K → f op = some (.agg #[.func (.func K) #[] #[]])) ∧
    ∀ op c, plainCode op = some c → ∃ g, g < B ∧ f op = some (.agg #[.func (.func 131) #[] #[.pointer (some ⟨g, 0, none⟩)]]) ∧ Blk w g 5 #[.int .u8 c]
theorem TabAt.below {w w' : World} {B : Nat} {mb : Value} (h : TabAt w B mb) (hb : Below B w w') : TabAt w' B mb := by
  obtain ⟨mk, f, h1, h2, h3, h4, h5⟩ := h
  refine ⟨mk, f, h1, h2, h3.of_block key8 (hb.block mk h2), h4, fun op c hc => ?_⟩
  obtain ⟨g, hg, e, hk⟩ := h5 op c hc
  exact ⟨g, hg, e, hk.below hb hg⟩
theorem TabAt.lookS {w : World} {B : Nat} {mb : Value} (h : TabAt w B mb) {op : Int} {K : FuncId} (hk : staticF op = some K) :
    (Instr.lookup 136 mb (.int .i8 op) false).run Try.prog w = .ok (.agg #[.func (.func K) #[] #[]]) w := by
  obtain ⟨mk, f, rfl, h2, h3, h4, h5⟩ := h
  have := h3.lookup key8 Try.underlying136 zero_writer op false
  rw [h4 op K hk] at this
  exact this
theorem TabAt.lookP {w : World} {B : Nat} {mb : Value} (h : TabAt w B mb) {op c : Int} (hk : plainCode op = some c) :
    ∃ g, g < B ∧ Blk w g 5 #[.int .u8 c] ∧ (Instr.lookup 136 mb (.int .i8 op) false).run Try.prog w = .ok (.agg #[.func (.func 131) #[] #[.pointer (some ⟨g, 0, none⟩)]]) w := by
  obtain ⟨mk, f, rfl, h2, h3, h4, h5⟩ := h
  have := h3.lookup key8 Try.underlying136 zero_writer op false
  obtain ⟨g, hg, e, hkk⟩ := h5 op c hk
  rw [e] at this
  exact ⟨g, hg, hkk, this⟩
theorem TabAt.looksP {w0 : World} {B : Nat} {mb : Value} (h : TabAt w0 B mb) {op c : Int} (hk : plainCode op = some c) :
    ∃ g, g < B ∧ Blk w0 g 5 #[.int .u8 c] ∧ ∀ w, Below B w0 w → (Instr.lookup 136 mb (.int .i8 op) false).run Try.prog w = .ok (.agg #[.func (.func 131) #[] #[.pointer (some ⟨g, 0, none⟩)]]) w := by
  obtain ⟨mk, f, rfl, h2, h3, h4, h5⟩ := h
  obtain ⟨g, hg, e, hkk⟩ := h5 op c hk
  refine ⟨g, hg, hkk, fun w hb => ?_⟩
  have := (h3.of_block key8 (hb.block mk h2)).lookup key8 Try.underlying136 zero_writer op false
  rw [e] at this
  exact this
def Node.vals (x : Node) : Array Value := #[.int .i8 x.op, .int .i8 x.kind, .int .i64 x.n, .int .i64 x.m, .string x.text, .int .i64 x.pos, .int .i64 x.kids]

/-- A writer's call. -/
def WriterC (w0 : World) (B kb : Nat) (tv im tm mb : Value) (ts : List Node) (F : MS → MS) (i : Nat) (x : Node) (K : FuncId) (caps : Array Value) : Prop :=
  ∀ (s : MS) (w : World) (A : Option Addr) (n c base : Nat), Below B w0 w → EK w B kb tv im tm mb s → w.ownsRow base 3 1 (.slice A n c) n (intVals ((kidsOf ts i).map fun j : Nat => (j : Int))) → (F s).ms ≤ 1000000 →
    Calls Try.prog K (#[.pointer (some ⟨kb, 0, none⟩), .agg #[.int .i8 x.op, .int .i8 x.kind, .int .i64 x.n, .int .i64 x.m, .string x.text, .int .i64 x.pos, .int .i64 x.kids], .slice A n c] ++ caps) w fun e w' => e = .returned (.tuple #[]) ∧ EK w' B kb tv im tm mb (F s) ∧ Frm B TE w w'

theorem intVals_map {l : List Nat} : l.map (fun j : Nat => Value.int .i64 j) = intVals (l.map fun j : Nat => (j : Int)) := by simp [intVals]
theorem field_writer (v : Value) (w : World) : (Instr.field 185 (.agg #[v]) 0).run Try.prog w = .ok v w := by kernel_rfl
theorem emitNode_S {w' : World} {B kb g : Nat} {tv im tm mb V : Value} {s : MS} {x : Node} (h : EK w' B kb tv im tm mb s) (kn : Blk w' g 42 #[.int .i8 x.op, .int .i8 x.kind, .int .i64 x.n, .int .i64 x.m, .string x.text, .int .i64 x.pos, .int .i64 x.kids]) (hl : (Instr.lookup 136 mb (.int .i8 x.op) false).run Try.prog w' = .ok V w') :
    w'.cell? ⟨kb, 0, none⟩ = some tv ∧ w'.cell? ⟨kb, 5, none⟩ = some mb ∧ w'.cell? ⟨g, 0, none⟩ = some (.int .i8 x.op) ∧ w'.cell? ⟨g, 1, none⟩ = some (.int .i8 x.kind) ∧ w'.cell? ⟨g, 2, none⟩ = some (.int .i64 x.n) ∧ w'.cell? ⟨g, 3, none⟩ = some (.int .i64 x.m) ∧ w'.cell? ⟨g, 4, none⟩ = some (.string x.text) ∧ w'.cell? ⟨g, 5, none⟩ = some (.int .i64 x.pos) ∧ w'.cell? ⟨g, 6, none⟩ = some (.int .i64 x.kids) ∧ (Instr.lookup 136 mb (.int .i8 x.op) false).run Try.prog w' = .ok V w' := by
  obtain ⟨e0, e1, e2, e4, e5, y4⟩ := h.cells
  exact ⟨e0, e5, kn.cell 0, kn.cell 1, kn.cell 2, kn.cell 3, kn.cell 4, kn.cell 5, kn.cell 6, hl⟩

end Go.Proofs.Ytggibiodeecljaa
