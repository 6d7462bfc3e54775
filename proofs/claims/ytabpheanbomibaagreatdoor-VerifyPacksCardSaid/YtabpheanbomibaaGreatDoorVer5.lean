/- verify: checker.takes, where it looks up. -/
import Derived.Deep.RegionWith
import Derived.Test.YtabpheanbomibaaGreatDoorVer4
namespace Go.Proofs.YtabpheanbomibaaGreatDoor
open Go.RowKit
set_option linter.unusedVariables false

def sign0 : Sign := ⟨ByteArray.empty, [], 0, false⟩
theorem sign_nth {w : World} {B b : Nat} {l : List Sign} (h : SignsAt w B b l) {n : Nat} (hn : n < l.length) {nm : ByteArray} {ar : List Int} {t : Int} {m : Bool} (hs : l.getD n sign0 = ⟨nm, ar, t, m⟩) :
    ∃ g F, B ≤ g ∧ w.cell? ⟨b, n * 4, none⟩ = some (.string nm) ∧ w.cell? ⟨b, n * 4 + 1, none⟩ = some (.slice (some ⟨g, 0, none⟩) ar.length ar.length) ∧ w.cell? ⟨b, n * 4 + 2, none⟩ = some (.int .i8 t) ∧ w.cell? ⟨b, n * 4 + 3, none⟩ = some (.func (Fn.func F) #[] #[]) ∧ Blk w g 82 (ar.map (Value.int .i8)).toArray := by
  have hs' : l[n]? = some ⟨nm, ar, t, m⟩ := by
    rw [List.getElem?_eq_getElem hn, ← hs, List.getD_eq_getElem?_getD, List.getElem?_eq_getElem hn]; rfl
  obtain ⟨g, h1, h2, h3, h4⟩ := h.2.2 n _ hs'
  exact ⟨g, _, h1, h3 0 _ rfl, h3 1 _ rfl, h3 2 _ rfl, h3 3 _ rfl, h4⟩
theorem cellA {W : World} {a : Addr} {r : Option Value} (o : Obj) (hl : a.block < W.heap.size) (h : W.cell? a = r) : (W.alloc o).cell? a = r :=
  (((Below.refl _ _).alloc (Nat.le_refl _) o : Below W.heap.size W (W.alloc o)).cell (p := a) hl).trans h
theorem cellAD {W : World} {a : Addr} {r : Option Value} (o : Obj) (hl : a.block < W.heap.size) (h : W.drew.cell? a = r) : (W.alloc o).drew.cell? a = r :=
  (((Below.refl _ _).alloc (Nat.le_refl _) o : Below W.heap.size W (W.alloc o)).cell (p := a) hl).trans h
/-- A sign's own copy, wherever it was laid. -/
def SgAt (w wx : World) (p : Value) (ar : List Int) (tl : Int) : Prop := ∃ g gp, p = .pointer (some ⟨gp, 0, none⟩) ∧ gp < wx.heap.size ∧ wx.cell? ⟨gp, 1, none⟩ = some (.slice (some ⟨g, 0, none⟩) ar.length ar.length) ∧ wx.cell? ⟨gp, 2, none⟩ = some (.int .i8 tl) ∧ Blk wx g 82 (ar.map (Value.int .i8)).toArray ∧ Below w.heap.size w wx
theorem sg_new {w w1 w5 : World} {g : Nat} {nm : ByteArray} {ar : List Int} {tl : Int} {fn : Value} (t : TypeId) (hb : Below w.heap.size w w1) (h5 : Below w1.heap.size w1 w5) (d : Blk w5 g 82 (ar.map (Value.int .i8)).toArray) :
    SgAt w (w5.alloc (.cells #[.string nm, .slice (some ⟨g, 0, none⟩) ar.length ar.length, .int .i8 tl, fn] t)) (.pointer (some ⟨w5.heap.size, 0, none⟩)) ar tl := by
  have k := Blk.new w5 t #[.string nm, .slice (some ⟨g, 0, none⟩) ar.length ar.length, .int .i8 tl, fn]
  have h6 := hb.trans (h5.mono hb.size)
  exact ⟨g, w5.heap.size, rfl, k.lt, k.cell 1, k.cell 2, d.alloc _, h6.alloc h6.size _⟩
theorem sg_set {w w1 w5 : World} {g gp : Nat} {nm : ByteArray} {ar : List Int} {tl : Int} {fn u0 u1 u2 u3 : Value} {t : TypeId} (hb : Below w.heap.size w w1) (h5 : Below w1.heap.size w1 w5) (hg : gp < g) (hgp : w.heap.size ≤ gp) (d : Blk w5 g 82 (ar.map (Value.int .i8)).toArray) (k : Blk w5 gp t #[u0, u1, u2, u3]) :
    SgAt w ((((w5.setCell ⟨gp, 0, none⟩ (.string nm)).setCell ⟨gp, 1, none⟩ (.slice (some ⟨g, 0, none⟩) ar.length ar.length)).setCell ⟨gp, 2, none⟩ (.int .i8 tl)).setCell ⟨gp, 3, none⟩ fn) (.pointer (some ⟨gp, 0, none⟩)) ar tl := by
  have k4 := (((k.set_ 0 (.string nm)).set_ 1 (.slice (some ⟨g, 0, none⟩) ar.length ar.length)).set_ 2 (.int .i8 tl)).set_ 3 fn
  have hne : g ≠ gp := by omega
  have d4 := (((d.far (p := ⟨gp, 0, none⟩) hne (.string nm)).far (p := ⟨gp, 1, none⟩) hne (.slice (some ⟨g, 0, none⟩) ar.length ar.length)).far (p := ⟨gp, 2, none⟩) hne (.int .i8 tl)).far (p := ⟨gp, 3, none⟩) hne fn
  have h6 := hb.trans (h5.mono hb.size)
  exact ⟨g, gp, rfl, k4.lt, k4.cell 1, k4.cell 2, d4, (((h6.setCell hgp _).setCell hgp _).setCell hgp _).setCell hgp _⟩
section
variable (w : World) (kb ib sb hb : Nat) (bv : Value) (SA : Option Addr) (slots : List Int) (sc : Nat) (ints texts : Int) (xa xA xB xC : Int)
set_option maxRecDepth 100000 in
set_option maxHeartbeats 4000000 in
theorem takes_4 (hK : CkAt w kb bv (.slice SA slots.length sc) ints texts ib sb hb) (hS : SmallsAt w SA slots) (hs : slots.length ≤ 1000) (h0 : 0 ≤ xA) (h1 : xA < slots.length) :
    Calls Tryz.prog 86 #[.pointer (some ⟨kb, 0, none⟩), .agg #[.int .i64 xa, .int .u8 4, .int .i64 xA, .int .i64 xB, .int .i64 xC]] w fun e w' => TakesOk w w' e ([], [slots.getD xA.toNat 0]) := by
  obtain ⟨b, o, rfl, hbl, hc⟩ := hS xA.toNat _ (List.getElem?_eq_getElem (by omega))
  have hv : slots.getD xA.toNat 0 = slots[xA.toNat] := by rw [List.getD_eq_getElem?_getD, List.getElem?_eq_getElem (by omega)]; rfl
  rw [← hv] at hc
  obtain ⟨v, hv2⟩ : ∃ v, slots.getD xA.toNat 0 = v := ⟨_, rfl⟩
  rw [hv2] at hc ⊢
  obtain ⟨n, hn⟩ : ∃ n, slots.length = n := ⟨_, rfl⟩
  rw [hn] at hK hs h1
  have hkl := hK.lt
  have k1 := Blk.cell hK 1
  clear hv hv2 hn hS hK
  go_enter Tryz.func86, Tryz.ntmps86
  go_wp2_with fail
  obtain ⟨W, hW⟩ : ∃ W, W = w.alloc (.cells #[.int .i64 xa, .int .u8 4, .int .i64 xA, .int .i64 xB, .int .i64 xC] 100) := ⟨_, rfl⟩
  have hbW : Below w.heap.size w W := by rw [hW]; exact (Below.refl _ _).alloc (Nat.le_refl _) _
  have i2 : W.drew.cell? ⟨w.heap.size, 2, none⟩ = some (.int .i64 xA) := by rw [hW]; exact (Blk.new w _ _).cell 2
  have kW : W.drew.cell? ⟨kb, 1, none⟩ = some (.slice (some ⟨b, o, none⟩) n sc) := (hbW.cell (p := ⟨kb, 1, none⟩) hkl).trans k1
  have hA : W.drew.cell? ⟨b, o + xA.toNat, none⟩ = some (.int .i8 v) := (hbW.cell (p := ⟨b, _, none⟩) hbl).trans hc
  have z1 : w.heap.size < W.heap.size := by rw [hW]; simp
  have z2 : kb < W.heap.size := by omega
  have z3 : b < W.heap.size := by omega
  have HW := Lib.hid hW
  rw [← hW]
  have HBW := Lib.hid hbW
  clear hbW hc k1 hW
  go_region_held3 (fun w' => w'.cell? ⟨w.heap.size, 2, none⟩ = some (.int .i64 xA) ∧ w'.cell? ⟨kb, 1, none⟩ = some (.slice (some ⟨b, o, none⟩) n sc) ∧ w'.cell? ⟨b, o + xA.toNat, none⟩ = some (.int .i8 v)) (first | exact ⟨i2, kW, hA⟩ | exact ⟨cellAD _ z1 i2, cellAD _ z2 kW, cellAD _ z3 hA⟩ | go_keep) ((first | (go_at_call 108; refine (take1_any _ _).mono ?_; rintro e w5 ⟨rfl, rfl⟩)))
  all_goals
    go_wp2_with fail
    go_ret2
    exact ⟨none, 0, _, 1, rfl, Nat.le_refl _, Nat.le_refl _, smalls_none _, smalls_blk (l := [v]) (Blk.new W 82 #[.int .i8 v]).drew, (HBW.out.alloc (by omega) _).drew⟩
set_option maxRecDepth 100000 in
set_option maxHeartbeats 4000000 in
theorem takes_5 (hK : CkAt w kb bv (.slice SA slots.length sc) ints texts ib sb hb) (hS : SmallsAt w SA slots) (hs : slots.length ≤ 1000) (h0 : 0 ≤ xA) (h1 : xA < slots.length) :
    Calls Tryz.prog 86 #[.pointer (some ⟨kb, 0, none⟩), .agg #[.int .i64 xa, .int .u8 5, .int .i64 xA, .int .i64 xB, .int .i64 xC]] w fun e w' => TakesOk w w' e ([slots.getD xA.toNat 0], []) := by
  obtain ⟨b, o, rfl, hbl, hc⟩ := hS xA.toNat _ (List.getElem?_eq_getElem (by omega))
  have hv : slots.getD xA.toNat 0 = slots[xA.toNat] := by rw [List.getD_eq_getElem?_getD, List.getElem?_eq_getElem (by omega)]; rfl
  rw [← hv] at hc
  obtain ⟨v, hv2⟩ : ∃ v, slots.getD xA.toNat 0 = v := ⟨_, rfl⟩
  rw [hv2] at hc ⊢
  obtain ⟨n, hn⟩ : ∃ n, slots.length = n := ⟨_, rfl⟩
  rw [hn] at hK hs h1
  have hkl := hK.lt
  have k1 := Blk.cell hK 1
  clear hv hv2 hn hS hK
  go_enter Tryz.func86, Tryz.ntmps86
  go_wp2_with fail
  obtain ⟨W, hW⟩ : ∃ W, W = w.alloc (.cells #[.int .i64 xa, .int .u8 5, .int .i64 xA, .int .i64 xB, .int .i64 xC] 100) := ⟨_, rfl⟩
  have hbW : Below w.heap.size w W := by rw [hW]; exact (Below.refl _ _).alloc (Nat.le_refl _) _
  have i2 : W.drew.cell? ⟨w.heap.size, 2, none⟩ = some (.int .i64 xA) := by rw [hW]; exact (Blk.new w _ _).cell 2
  have kW : W.drew.cell? ⟨kb, 1, none⟩ = some (.slice (some ⟨b, o, none⟩) n sc) := (hbW.cell (p := ⟨kb, 1, none⟩) hkl).trans k1
  have hA : W.drew.cell? ⟨b, o + xA.toNat, none⟩ = some (.int .i8 v) := (hbW.cell (p := ⟨b, _, none⟩) hbl).trans hc
  have z1 : w.heap.size < W.heap.size := by rw [hW]; simp
  have z2 : kb < W.heap.size := by omega
  have z3 : b < W.heap.size := by omega
  have HW := Lib.hid hW
  rw [← hW]
  have HBW := Lib.hid hbW
  clear hbW hc k1 hW
  go_region_held3 (fun w' => w'.cell? ⟨w.heap.size, 2, none⟩ = some (.int .i64 xA) ∧ w'.cell? ⟨kb, 1, none⟩ = some (.slice (some ⟨b, o, none⟩) n sc) ∧ w'.cell? ⟨b, o + xA.toNat, none⟩ = some (.int .i8 v)) (first | exact ⟨i2, kW, hA⟩ | exact ⟨cellAD _ z1 i2, cellAD _ z2 kW, cellAD _ z3 hA⟩ | go_keep) ((first | (go_at_call 108; refine (take1_any _ _).mono ?_; rintro e w5 ⟨rfl, rfl⟩)))
  all_goals
    go_wp2_with fail
    go_ret2
    exact ⟨_, 1, none, 0, rfl, Nat.le_refl _, Nat.le_refl _, smalls_blk (l := [v]) (Blk.new W 82 #[.int .i8 v]).drew, smalls_none _, (HBW.out.alloc (by omega) _).drew⟩
set_option maxRecDepth 100000 in
set_option maxHeartbeats 4000000 in
theorem takes_60 (h0 : 0 ≤ xA) (h1 : xA < 9) :
    Calls Tryz.prog 86 #[.pointer (some ⟨kb, 0, none⟩), .agg #[.int .i64 xa, .int .u8 60, .int .i64 xA, .int .i64 xB, .int .i64 xC]] w fun e w' => TakesOk w w' e ((effectsM.getD xA.toNat sign0).args, []) := by
  obtain ⟨nm, ar, tl, mn, hsg⟩ : ∃ nm ar tl mn, effectsM.getD xA.toNat sign0 = ⟨nm, ar, tl, mn⟩ := ⟨_, _, _, _, rfl⟩
  rw [hsg]
  have HSG := Lib.hid hsg
  clear hsg
  go_enter Tryz.func86, Tryz.ntmps86
  go_wp2_with fail
  obtain ⟨W, hW⟩ : ∃ W, W = w.alloc (.cells #[.int .i64 xa, .int .u8 60, .int .i64 xA, .int .i64 xB, .int .i64 xC] 100) := ⟨_, rfl⟩
  have hbW : Below w.heap.size w W := by rw [hW]; exact (Below.refl _ _).alloc (Nat.le_refl _) _
  have i2 : W.drew.cell? ⟨w.heap.size, 2, none⟩ = some (.int .i64 xA) := by rw [hW]; exact (Blk.new w _ _).cell 2
  have z1 : w.heap.size < W.heap.size := by rw [hW]; simp
  rw [← hW]
  have HBW := Lib.hid hbW
  clear hbW hW
  go_region_with ((first | (go_at_call 110; refine (effects_cell _ (nb := w.heap.size) i2).mono ?_; rintro e w5 ⟨rfl, hsg, hbl, hz5, c5⟩; obtain ⟨g, fn, hg, d0, d1, d2, d3, d4⟩ := sign_nth hsg (n := xA.toNat) (by show _ < 9; omega) HSG.out; rw [drew_size] at d0 d1 d2 d3; have D4 := Lib.hid d4; have HB5 := Lib.hid hbl; clear hsg hbl d4)))
  all_goals
    go_wp2_with fail
    go_ret2
    exact ⟨_, _, none, 0, rfl, Nat.le_refl _, Nat.le_refl _, smalls_blk D4.out, smalls_none _, HBW.out.drew.trans (HB5.out.mono HBW.out.size)⟩
set_option maxRecDepth 100000 in
set_option maxHeartbeats 40000000 in
theorem takes_46 (h0 : 0 ≤ xA) (h1 : xA < 13) :
    Calls Tryz.prog 86 #[.pointer (some ⟨kb, 0, none⟩), .agg #[.int .i64 xa, .int .u8 46, .int .i64 xA, .int .i64 xB, .int .i64 xC]] w fun e w' => TakesOk w w' e ((fieldsM.getD xA.toNat sign0).args, [(fieldsM.getD xA.toNat sign0).tell]) := by
  obtain ⟨nm, ar, tl, mn, hsg⟩ : ∃ nm ar tl mn, fieldsM.getD xA.toNat sign0 = ⟨nm, ar, tl, mn⟩ := ⟨_, _, _, _, rfl⟩
  rw [hsg]
  have HSG := Lib.hid hsg
  clear hsg
  go_enter Tryz.func86, Tryz.ntmps86
  go_wp2_with fail
  obtain ⟨W, hW⟩ : ∃ W, W = w.alloc (.cells #[.int .i64 xa, .int .u8 46, .int .i64 xA, .int .i64 xB, .int .i64 xC] 100) := ⟨_, rfl⟩
  have hbW : Below w.heap.size w W := by rw [hW]; exact (Below.refl _ _).alloc (Nat.le_refl _) _
  have i2 : W.drew.cell? ⟨w.heap.size, 2, none⟩ = some (.int .i64 xA) := by rw [hW]; exact (Blk.new w _ _).cell 2
  have z1 : w.heap.size < W.heap.size := by rw [hW]; simp
  rw [← hW]
  have HBW := Lib.hid hbW
  clear hbW hW
  have hneZ : w.heap.size ≠ W.heap.size := Nat.ne_of_lt z1
  have i2' : W.cell? ⟨w.heap.size, 2, none⟩ = some (.int .i64 xA) := i2
  have i2a := cellAD (.cells #[.string ⟨#[]⟩, .slice none 0 0, .int .i8 0, .nilFunc] 207) z1 i2
  go_cut [7] (fun p wx => SgAt w wx p ar tl)
  case first =>
    go_region_with ((first | (go_at_call 109; refine (fields_cell _ (nb := w.heap.size) (by first | exact i2 | exact cellAD _ z1 i2)).mono ?_; rintro e w5 ⟨rfl, hsg, hbl, hz5, c5⟩; have c5a := cellA (.cells #[.string ⟨#[]⟩, .slice none 0 0, .int .i8 0, .nilFunc] 207) hz5 c5; have ht5 := hsg.2.1; obtain ⟨bc5, bf5⟩ := bcell hbl; have hz6 := hbl.size; (try simp only [World.size_alloc, drew_size] at bc5 bf5 hz6); (try (have zb0 := bc5 W.heap.size 0 (by omega); have zb1 := bc5 W.heap.size 1 (by omega); have zb2 := bc5 W.heap.size 2 (by omega); have zb3 := bc5 W.heap.size 3 (by omega); have zf0 := bf5 W.heap.size 0 (by omega); have zf1 := bf5 W.heap.size 1 (by omega); have zf2 := bf5 W.heap.size 2 (by omega); have zf3 := bf5 W.heap.size 3 (by omega))); clear bc5 bf5; (try (have bz := (Blk.new W 207 #[.string ⟨#[]⟩, .slice none 0 0, .int .i8 0, .nilFunc]).drew.below hbl (by simp); have BZ := Lib.hid bz; clear bz)); obtain ⟨g, fn, hg, d0, d1, d2, d3, d4⟩ := sign_nth hsg (n := xA.toNat) (by show _ < 13; omega) HSG.out; have hne5 : w.heap.size ≠ w5.heap.size := Nat.ne_of_lt hz5; (try simp only [World.size_alloc, drew_size] at d0 d1 d2 d3 ht5); have D4 := Lib.hid d4; have HB5 := Lib.hid hbl; clear hsg hbl d4)))
    all_goals
      go_wp2_with fail
      go_meet
      first
        | exact sg_new _ HBW.out.drew HB5.out D4.out
        | exact sg_set (HBW.out.alloc HBW.out.size _).drew HB5.out (by have h9 := hg; simp only [World.size_alloc, drew_size] at h9; omega) HBW.out.size D4.out BZ.out
  case rest =>
    obtain ⟨g, gp, rfl, zg, q1, q2, hd, hbl⟩ := hcut
    have HD := Lib.hid hd
    have HBL := Lib.hid hbl
    clear hd hbl HBW HSG
    have r1 : wc.drew.cell? ⟨gp, 1, none⟩ = some (.slice (some ⟨g, 0, none⟩) ar.length ar.length) := q1
    have r2 : wc.drew.cell? ⟨gp, 2, none⟩ = some (.int .i8 tl) := q2
    go_wp2_with fail
    go_region_held3 (fun w' => w'.cell? ⟨gp, 1, none⟩ = some (.slice (some ⟨g, 0, none⟩) ar.length ar.length) ∧ w'.cell? ⟨gp, 2, none⟩ = some (.int .i8 tl)) (first | with_reducible exact ⟨r1, r2⟩ | with_reducible exact ⟨cellAD _ zg r1, cellAD _ zg r2⟩) ((first | (go_at_call 108; refine (take1_any _ _).mono ?_; rintro e w5 ⟨rfl, rfl⟩)))
    all_goals
      go_wp2_with fail
      go_ret2
      exact ⟨_, _, _, 1, rfl, Nat.le_refl _, Nat.le_refl _, smalls_blk (HD.out.alloc _).drew, smalls_blk (l := [tl]) (Blk.new wc 82 #[.int .i8 tl]).drew, (HBL.out.alloc HBL.out.size _).drew⟩
theorem takes_any (x : Ins) (hK : CkAt w kb bv (.slice SA slots.length sc) ints texts ib sb hb) (hS : SmallsAt w SA slots) (hs : slots.length ≤ 1000) (h0 : 0 ≤ x.a) (hn : numbersV slots ints texts x = 0) :
    Calls Tryz.prog 86 #[.pointer (some ⟨kb, 0, none⟩), .agg x.cells] w fun e w' => TakesOk w w' e (takesV slots x) := by
  obtain ⟨xa, xo, xA, xB, xC⟩ := x
  simp only at h0
  unfold Ins.cells
  simp only
  by_cases c1 : xo = 1
  · subst c1; exact takes_1 w _ xa xA xB xC
  by_cases c2 : xo = 2
  · subst c2; exact takes_2 w _ xa xA xB xC
  by_cases c3 : xo = 3
  · subst c3; exact takes_3 w _ xa xA xB xC
  by_cases c4 : xo = 4
  · subst c4
    have h1 : xA < slots.length := by
      unfold numbersV at hn
      simp at hn
      omega
    exact takes_4 w kb ib sb hb bv SA slots sc ints texts xa xA xB xC hK hS hs h0 h1
  by_cases c5 : xo = 5
  · subst c5
    have h1 : xA < slots.length := by
      unfold numbersV at hn
      simp at hn
      omega
    exact takes_5 w kb ib sb hb bv SA slots sc ints texts xa xA xB xC hK hS hs h0 h1
  by_cases c10 : xo = 10
  · subst c10; exact takes_10 w _ xa xA xB xC
  by_cases c11 : xo = 11
  · subst c11; exact takes_11 w _ xa xA xB xC
  by_cases c12 : xo = 12
  · subst c12; exact takes_12 w _ xa xA xB xC
  by_cases c13 : xo = 13
  · subst c13; exact takes_13 w _ xa xA xB xC
  by_cases c14 : xo = 14
  · subst c14; exact takes_14 w _ xa xA xB xC
  by_cases c17 : xo = 17
  · subst c17; exact takes_17 w _ xa xA xB xC
  by_cases c18 : xo = 18
  · subst c18; exact takes_18 w _ xa xA xB xC
  by_cases c15 : xo = 15
  · subst c15; exact takes_15 w _ xa xA xB xC
  by_cases c16 : xo = 16
  · subst c16; exact takes_16 w _ xa xA xB xC
  by_cases c42 : xo = 42
  · subst c42; exact takes_42 w _ xa xA xB xC
  by_cases c19 : xo = 19
  · subst c19; exact takes_19 w _ xa xA xB xC
  by_cases c20 : xo = 20
  · subst c20; exact takes_20 w _ xa xA xB xC
  by_cases c21 : xo = 21
  · subst c21; exact takes_21 w _ xa xA xB xC
  by_cases c22 : xo = 22
  · subst c22; exact takes_22 w _ xa xA xB xC
  by_cases c23 : xo = 23
  · subst c23; exact takes_23 w _ xa xA xB xC
  by_cases c24 : xo = 24
  · subst c24; exact takes_24 w _ xa xA xB xC
  by_cases c31 : xo = 31
  · subst c31; exact takes_31 w _ xa xA xB xC
  by_cases c32 : xo = 32
  · subst c32; exact takes_32 w _ xa xA xB xC
  by_cases c33 : xo = 33
  · subst c33; exact takes_33 w _ xa xA xB xC
  by_cases c40 : xo = 40
  · subst c40; exact takes_40 w _ xa xA xB xC
  by_cases c41 : xo = 41
  · subst c41; exact takes_41 w _ xa xA xB xC
  by_cases c43 : xo = 43
  · subst c43; exact takes_43 w _ xa xA xB xC
  by_cases c44 : xo = 44
  · subst c44; exact takes_44 w _ xa xA xB xC
  by_cases c45 : xo = 45
  · subst c45; exact takes_45 w _ xa xA xB xC
  by_cases c46 : xo = 46
  · subst c46
    have h1 : xA < 13 := by
      unfold numbersV poolV at hn
      simp at hn
      omega
    exact takes_46 w kb xa xA xB xC h0 h1
  by_cases c60 : xo = 60
  · subst c60
    have h1 : xA < 9 := by
      unfold numbersV poolV at hn
      simp at hn
      omega
    exact takes_60 w kb xa xA xB xC h0 h1
  have e : takesV slots ⟨xa, xo, xA, xB, xC⟩ = ([], []) := by
    unfold takesV
    simp [c1, c2, c3, c4, c5, c10, c11, c12, c13, c14, c17, c18, c15, c16, c42, c19, c20, c21, c22, c23, c24, c31, c32, c33, c40, c41, c43, c44, c45, c46, c60]
  rw [e]
  exact takes_else w _ xa xA xB xC xo c1 c2 c3 c4 c5 c10 c11 c12 c13 c14 c17 c18 c15 c16 c42 c19 c20 c21 c22 c23 c24 c31 c32 c33 c40 c41 c43 c44 c45 c46 c60
end
end Go.Proofs.YtabpheanbomibaaGreatDoor
