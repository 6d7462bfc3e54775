/- tableaulaw20.VerifyMore: it answers true. -/
import Derived.Test.YtggibiodeecljaaVerX
import Derived.Test.YtggibiodeecljaaEqS
import Derived.Deep.RegionHeld3
import Derived.Deep.DeepCutAuto
namespace Go.Proofs.Ytggibiodeecljaa
open Go.RowKit
set_option linter.unusedVariables false

def zeroF : Array Value := #[.int .i64 0, .int .i64 0, .int .i64 0, .int .i64 0]
/-- The job in its block. -/
structure JobAt (w : World) (B : Nat) (v0 v1 : Value) (i t : Int) (wx : World) : Prop where
  bel : Below B w wx
  blk : Blk wx B 60 #[v0, v1, .int .i64 i, .int .i64 t]
  size : B ≤ wx.heap.size
section
variable {w wx wy : World} {B : Nat} {v0 v1 : Value} {i t : Int}
theorem JobAt.below (h : JobAt w B v0 v1 i t wx) (hb : Below wx.heap.size wx wy) : JobAt w B v0 v1 i t wy := ⟨h.bel.trans (hb.mono h.size), h.blk.below hb h.blk.lt, Nat.le_trans h.size hb.size⟩
theorem JobAt.drew (h : JobAt w B v0 v1 i t wx) : JobAt w B v0 v1 i t wx.drew := ⟨h.bel.drew, h.blk.drew, h.size⟩
theorem JobAt.alloc (h : JobAt w B v0 v1 i t wx) (o : Obj) : JobAt w B v0 v1 i t (wx.alloc o) := h.below ((Below.refl _ _).alloc (Nat.le_refl _) o)
theorem JobAt.cells (h : JobAt w B v0 v1 i t wx) : wx.cell? ⟨B, 0, none⟩ = some v0 ∧ wx.cell? ⟨B, 1, none⟩ = some v1 ∧ wx.cell? ⟨B, 2, none⟩ = some (.int .i64 i) ∧ wx.cell? ⟨B, 3, none⟩ = some (.int .i64 t) := ⟨h.blk.cell 0, h.blk.cell 1, h.blk.cell 2, h.blk.cell 3⟩
theorem JobAt.zero (h : JobAt w B v0 v1 i t wx) (hb : Below (wx.alloc (.cells #[.int .i64 0, .int .i64 0, .int .i64 0, .int .i64 0] 64)).heap.size (wx.alloc (.cells #[.int .i64 0, .int .i64 0, .int .i64 0, .int .i64 0] 64)) wy) : Blk wy wx.heap.size 64 #[.int .i64 0, .int .i64 0, .int .i64 0, .int .i64 0] ∧ B < wx.heap.size := ⟨(Blk.new wx _ _).below hb (by simp), h.blk.lt⟩
end
/-- What the first part leaves: the answer, its height, its fault in a cell of its own. -/
def MoreAt (w : World) (B : Nat) (v0 v1 : Value) (i t : Int) (T : AnsV) (v5 v6 v7 : Value) (wx : World) : Prop :=
  ∃ fb, v7 = .pointer (some ⟨fb, 0, none⟩) ∧ B < fb ∧ Blk wx fb 64 #[.int .i64 T.2.2.1, .int .i64 T.2.2.2, .int .i64 0, .int .i64 0] ∧ v6 = .int .i64 T.2.1 ∧ ShapesAt wx B v5 T.1 ∧ (T.2.2.1 ≠ 0 → v5 = .slice none 0 0) ∧ JobAt w B v0 v1 i t wx
theorem store_zero {wx : World} {fb : Nat} {a b c d : Value} (h : Blk wx fb 64 #[.int .i64 0, .int .i64 0, .int .i64 0, .int .i64 0]) : Blk ((((wx.setCell ⟨fb, 0, none⟩ a).setCell ⟨fb, 1, none⟩ b).setCell ⟨fb, 2, none⟩ c).setCell ⟨fb, 3, none⟩ d) fb 64 #[a, b, c, d] := (((h.set_ 0 a).set_ 1 b).set_ 2 c).set_ 3 d
theorem more_melt {w wx : World} {B : Nat} {v0 v1 v5 : Value} {i t : Int} {T : AnsV} (hj : JobAt w B v0 v1 i t wx) (hs : ShapesAt wx B v5 T.1) (hn : T.2.2.1 ≠ 0 → v5 = .slice none 0 0) :
    MoreAt w B v0 v1 i t T v5 (.int .i64 T.2.1) (.pointer (some ⟨wx.heap.size, 0, none⟩)) (wx.alloc (.cells #[.int .i64 T.2.2.1, .int .i64 T.2.2.2, .int .i64 0, .int .i64 0] 64)) :=
  ⟨_, rfl, hj.blk.lt, Blk.new _ _ _, rfl, hs.below ((Below.refl _ _).alloc (Nat.le_refl _) _), hn, hj.alloc _⟩
theorem more_store {w wx : World} {B fb : Nat} {v0 v1 v5 : Value} {i t : Int} {T : AnsV} (hj : JobAt w B v0 v1 i t wx) (hs : ShapesAt wx B v5 T.1) (hn : T.2.2.1 ≠ 0 → v5 = .slice none 0 0) (hf : Blk wx fb 64 #[.int .i64 0, .int .i64 0, .int .i64 0, .int .i64 0] ∧ B < fb) :
    MoreAt w B v0 v1 i t T v5 (.int .i64 T.2.1) (.pointer (some ⟨fb, 0, none⟩)) ((((wx.setCell ⟨fb, 0, none⟩ (.int .i64 T.2.2.1)).setCell ⟨fb, 1, none⟩ (.int .i64 T.2.2.2)).setCell ⟨fb, 2, none⟩ (.int .i64 0)).setCell ⟨fb, 3, none⟩ (.int .i64 0)) := by
  obtain ⟨b0, hB⟩ := hf
  have b1 := b0.set_ 0 (.int .i64 T.2.2.1)
  have b2 := b1.set_ 1 (.int .i64 T.2.2.2)
  have b3 := b2.set_ 2 (.int .i64 0)
  have hfw := (((Frm.refl B [64] wx).set_ (i := 0) b0 (Nat.le_of_lt hB) (by simp) (.int .i64 T.2.2.1)).set_ (i := 1) b1 (Nat.le_of_lt hB) (by simp) (.int .i64 T.2.2.2)).set_ (i := 2) b2 (Nat.le_of_lt hB) (by simp) (.int .i64 0) |>.set_ (i := 3) b3 (Nat.le_of_lt hB) (by simp) (.int .i64 0)
  obtain ⟨l, h1, h2, h3⟩ := hs
  refine ⟨fb, rfl, hB, store_zero b0, rfl, ⟨l, hfw.own h1 (by simp), h2, fun k x p hk hp => ?_⟩, hn, ⟨hj.bel.trans hfw.below, hfw.blk hj.blk (by simp), Nat.le_trans hj.size hfw.size⟩⟩
  obtain ⟨q1, q2, q3⟩ := h3 k x p hk hp
  exact ⟨q1, q2, hfw.own q3 (by simp)⟩
theorem JobAt.cells4 {w wx : World} {B fb : Nat} {v0 v1 : Value} {i t : Int} (h : JobAt w B v0 v1 i t wx) (hf : Blk wx fb 64 #[.int .i64 0, .int .i64 0, .int .i64 0, .int .i64 0] ∧ B < fb) (a b c d : Value) :
    ((((wx.setCell ⟨fb, 0, none⟩ a).setCell ⟨fb, 1, none⟩ b).setCell ⟨fb, 2, none⟩ c).setCell ⟨fb, 3, none⟩ d).cell? ⟨B, 0, none⟩ = some v0 ∧ ((((wx.setCell ⟨fb, 0, none⟩ a).setCell ⟨fb, 1, none⟩ b).setCell ⟨fb, 2, none⟩ c).setCell ⟨fb, 3, none⟩ d).cell? ⟨B, 1, none⟩ = some v1 ∧ ((((wx.setCell ⟨fb, 0, none⟩ a).setCell ⟨fb, 1, none⟩ b).setCell ⟨fb, 2, none⟩ c).setCell ⟨fb, 3, none⟩ d).cell? ⟨B, 2, none⟩ = some (.int .i64 i) ∧ ((((wx.setCell ⟨fb, 0, none⟩ a).setCell ⟨fb, 1, none⟩ b).setCell ⟨fb, 2, none⟩ c).setCell ⟨fb, 3, none⟩ d).cell? ⟨B, 3, none⟩ = some (.int .i64 t) := by
  have hne : B ≠ fb := by omega
  have hb : Blk ((((wx.setCell ⟨fb, 0, none⟩ a).setCell ⟨fb, 1, none⟩ b).setCell ⟨fb, 2, none⟩ c).setCell ⟨fb, 3, none⟩ d) B 60 #[v0, v1, .int .i64 i, .int .i64 t] := (((h.blk.far hne a).far hne b).far hne c).far hne d
  exact ⟨hb.cell 0, hb.cell 1, hb.cell 2, hb.cell 3⟩
section
variable (w : World) (BA SA : Option Addr) (b slots : List Int) (bc sc : Nat) (ints texts kind : Int)
set_option maxRecDepth 100000 in
set_option maxHeartbeats 16000000 in
theorem more_any (hbt : BytesAt w BA b) (hS : SmallsAt w SA slots) (hbl : b.length ≤ 140737488355328) (hsl : slots.length ≤ 140737488355328) :
    Calls Try.prog 8 #[.agg #[.slice BA b.length bc, .slice SA slots.length sc, .int .i64 ints, .int .i64 texts], .int .i8 kind] w fun e w' => e = .returned (.bool true) ∧ Below w.heap.size w w' := by
  obtain ⟨B, hBe⟩ : ∃ B, w.heap.size = B := ⟨_, rfl⟩
  obtain ⟨n, hn⟩ : ∃ n, b.length = n := ⟨_, rfl⟩
  obtain ⟨ns, hns⟩ : ∃ n, slots.length = n := ⟨_, rfl⟩
  have hby := beyond20_any BA SA n bc ns sc ints texts
  have hbz := hbt.byte
  have hcb := fun wx (h1 : JobAt w B (.slice BA n bc) (.slice SA ns sc) ints texts wx) (h2 : n ≤ 100000000) => (cpB_any BA b n bc wx hn h2 (hbt.below (by rw [hBe]; exact h1.bel))).mono (R' := fun e w' => ∃ A c, e = .returned (.slice A n c) ∧ BytesAt w' A b ∧ n ≤ c ∧ w'.ownsRow wx.heap.size 5 1 (.slice A n c) n (byteV b) ∧ JobAt w B (.slice BA n bc) (.slice SA ns sc) ints texts w' ∧ Below wx.heap.size wx w') (by
    rintro e w' ⟨v, rfl, ho, hb⟩
    obtain ⟨A, c, rfl⟩ := own_form ho
    obtain ⟨q1, q2, q3⟩ := own_byteV ho hbz
    exact ⟨A, c, rfl, q1, q3, ho, h1.below hb, hb⟩)
  have hcs := fun wx (h1 : JobAt w B (.slice BA n bc) (.slice SA ns sc) ints texts wx) (h2 : ns ≤ 100000000) => (cpS_any SA slots ns sc wx hns h2 (hS.below (by rw [hBe]; exact h1.bel))).mono (R' := fun e w' => ∃ A c, e = .returned (.slice A ns c) ∧ SmallsAt w' A slots ∧ w'.ownsRow wx.heap.size 40 1 (.slice A ns c) ns (smallV slots) ∧ JobAt w B (.slice BA n bc) (.slice SA ns sc) ints texts w' ∧ Below wx.heap.size wx w') (by
    rintro e w' ⟨v, rfl, ho, hb⟩
    obtain ⟨A, c, rfl⟩ := own_form ho
    exact ⟨A, c, rfl, (own_smallV ho).1, ho, h1.below hb, hb⟩)
  have hcc := fun wx (h1 : JobAt w B (.slice BA n bc) (.slice SA ns sc) ints texts wx) (A : Option Addr) (c : Nat) (A2 : Option Addr) (c2 : Nat) (q1 : BytesAt wx A b) (q2 : n ≤ c) (q3 : SmallsAt wx A2 slots) (h2 : n ≤ 100000000) (h3 : ns ≤ 100000000) => (code_any wx A A2 b slots c c2 ints texts q1 (by rw [hn]; exact q2) (by omega) (by omega) q3).mono (R' := fun e w' => ∃ v, e = .returned (.tuple #[v, .int .i64 (codeV b slots ints texts).2.1, .agg #[.int .i64 (codeV b slots ints texts).2.2.1, .int .i64 (codeV b slots ints texts).2.2.2, .int .i64 0, .int .i64 0]]) ∧ ShapesAt w' B v (codeV b slots ints texts).1 ∧ ((codeV b slots ints texts).2.2.1 ≠ 0 → v = .slice none 0 0) ∧ JobAt w B (.slice BA n bc) (.slice SA ns sc) ints texts w' ∧ Below wx.heap.size wx w') (by
    rintro e w' ⟨v, rfl, ⟨l, r1, r2, r3⟩, hnil, hb⟩
    refine ⟨v, rfl, ⟨l, own_base r1 h1.size, r2, fun k x p hk hp => ?_⟩, hnil, h1.below hb, hb⟩
    obtain ⟨t1, t2, t3⟩ := r3 k x p hk hp
    exact ⟨t1, t2, own_base t3 h1.size⟩)
  obtain ⟨T, hT⟩ : ∃ T, codeV b slots ints texts = T := ⟨_, rfl⟩
  rw [hn, hns] at hcc
  simp only [hT] at hcc
  have hb0 : Below B w w := Below.refl _ _
  rw [hBe, hn, hns]
  have HBY := Lib.hid hby
  have HCB := Lib.hid hcb
  have HCS := Lib.hid hcs
  have HCC := Lib.hid hcc
  have HBT := Lib.hid hbt
  have HSM := Lib.hid hS
  have HN := Lib.hid hn
  have HNS := Lib.hid hns
  have HT := Lib.hid hT
  rw [hn] at hbl
  rw [hns] at hsl
  clear hby hcb hcs hcc hbt hS hn hns hT hbz
  have hnq := neq_fault
  go_enter Try.func8, Try.ntmps8
  go_wp2_with fail
  refine (HBY.out _).mono ?_
  rintro e w1 ⟨rfl, hb1⟩
  have hjb := (Blk.new w 60 #[.slice BA n bc, .slice SA ns sc, .int .i64 ints, .int .i64 texts]).below hb1 (by simp)
  rw [hBe] at hjb
  have hB1 : Below B w w1 := (hb0.alloc (by omega) _).trans (hb1.mono (by simp; omega))
  by_cases hlong : (16777216 : Int) < n ∨ (16777216 : Int) < ns
  · have hq : (decide ((16777216 : Int) < n) || decide ((16777216 : Int) < ns)) = true := by simpa using hlong
    rw [hq]
    have HB1 := Lib.hid hB1
    clear hB1 hb1 hjb hq
    go_wp2_with fail
    go_ret
    exact ⟨rfl, HB1.out⟩
  have hq : (decide ((16777216 : Int) < n) || decide ((16777216 : Int) < ns)) = false := by simp only [Bool.or_eq_false_iff, decide_eq_false_iff_not]; omega
  rw [hq]
  have hja : JobAt w B (.slice BA n bc) (.slice SA ns sc) ints texts w1 := ⟨hB1, hjb, by have := hjb.lt; omega⟩
  have hjl := hjb.lt
  have hn16 : n ≤ 100000000 := by omega
  have hns16 : ns ≤ 100000000 := by omega
  have HJ := Lib.hid hja
  clear hB1 hb1 hjb hq hja
  go_wp2_with fail
  go_cut [5, 6, 7] (fun v5 v6 v7 wx => MoreAt w B (.slice BA n bc) (.slice SA ns sc) ints texts T v5 v6 v7 wx)
  case first =>
    go_region_held3 (fun w' => w'.cell? ⟨B, 0, none⟩ = some (.slice BA n bc) ∧ w'.cell? ⟨B, 1, none⟩ = some (.slice SA ns sc) ∧ w'.cell? ⟨B, 2, none⟩ = some (.int .i64 ints) ∧ w'.cell? ⟨B, 3, none⟩ = some (.int .i64 texts)) (first | with_reducible exact HJ.out.drew.cells | with_reducible exact (HJ.out.alloc _).drew.cells | with_reducible exact HJa.out.cells | with_reducible exact (HJa.out.alloc _).cells | with_reducible exact HJb.out.cells | with_reducible exact (HJb.out.alloc _).cells | with_reducible exact HJc.out.cells | with_reducible exact (HJc.out.alloc _).cells | with_reducible exact HJc.out.cells4 HFc.out _ _ _ _ | fail) ((first | (go_at_call 31; refine (HCB.out _ (by first | with_reducible exact HJ.out.drew | with_reducible exact (HJ.out.alloc _).drew) hn16).mono ?_; rintro e wa ⟨A1, c1, rfl, hA1, hc1, _, hJa, hba⟩; have HJa := Lib.hid hJa; (first | have HFa := Lib.hid (HJ.out.zero ((Below.refl _ _).drew.trans hba)) | skip); have HA1 := Lib.hid hA1; clear hJa hba hA1) | (go_at_call 32; refine (HCS.out _ (by first | with_reducible exact HJa.out | with_reducible exact HJa.out.alloc _) hns16).mono ?_; rintro e wb ⟨A2, c2, rfl, hA2, _, hJb, hbb⟩; have HJb := Lib.hid hJb; (first | have HFb := Lib.hid (⟨HFa.out.1.below hbb HFa.out.1.lt, HFa.out.2⟩ : _ ∧ _) | have HFb := Lib.hid (HJa.out.zero hbb) | skip); (first | have HB1 := Lib.hid (HA1.out.below hbb) | have HB1 := Lib.hid ((HA1.out.below ((Below.refl _ _).alloc (Nat.le_refl _) _)).below hbb)); have HA2 := Lib.hid hA2; clear hJb hbb hA2) | (go_at_call 30; refine (HCC.out _ (by first | with_reducible exact HJb.out | with_reducible exact HJb.out.alloc _) A1 c1 A2 c2 (by first | with_reducible exact HB1.out | exact HB1.out.below ((Below.refl _ _).alloc (Nat.le_refl _) _)) hc1 (by first | with_reducible exact HA2.out | exact HA2.out.below ((Below.refl _ _).alloc (Nat.le_refl _) _)) hn16 hns16).mono ?_; rintro e wc2 ⟨v5, rfl, hsh, hnil, hJc, hbc2⟩; have HJc := Lib.hid hJc; (first | have HFc := Lib.hid (⟨HFb.out.1.below hbc2 HFb.out.1.lt, HFb.out.2⟩ : _ ∧ _) | have HFc := Lib.hid (HJb.out.zero hbc2) | skip); (first | (have f0 := HFc.out.1.cell 0; have f1 := HFc.out.1.cell 1; have f2 := HFc.out.1.cell 2; have f3 := HFc.out.1.cell 3; have z0 := HFc.out.1.frozen 0; have z1 := HFc.out.1.frozen 1; have z2 := HFc.out.1.frozen 2; have z3 := HFc.out.1.frozen 3) | skip); have HSH := Lib.hid hsh; have HNIL := Lib.hid hnil; clear hJc hbc2 hsh hnil)))
    all_goals
      go_wp2_with fail
      go_meet
      first | exact more_melt HJc.out HSH.out HNIL.out | exact more_store HJc.out HSH.out HNIL.out HFc.out
  case rest =>
    obtain ⟨fb, rfl, hfb, hF, rfl, hsh, hnil, hj⟩ := hcut
    have hfl := hF.lt
    have f0 := hF.cell 0
    have f1 := hF.cell 1
    have f2 := hF.cell 2
    have f3 := hF.cell 3
    have HF := Lib.hid hF
    have HSH := Lib.hid hsh
    have HJC := Lib.hid hj
    have HNIL := Lib.hid hnil
    clear hF hsh hj hnil
    rcases code_ways b slots ints texts HBT.out.byte with ⟨e0, a0, hc, he, ha⟩ | ⟨l, v, hok, hc⟩
    · have hT : T = ([], 0, e0, a0) := by rw [← HT.out, hc]
      obtain rfl : u5 = .slice none 0 0 := HNIL.out (by rw [hT]; exact he)
      rw [hT] at f0 f1 ⊢
      have hq : (e0 == 0) = false := by simpa using he
      have hq2 : (e0 != 0) = true := by simpa using he
      have hq3 : decide (0 ≤ a0) = true := by simpa using ha
      clear hc hT he ha HT HF HSH HNIL
      go_wp2_with fail
      refine (works20_any _).mono ?_
      rintro e w2 ⟨rfl, hb2⟩
      have HB2 := Lib.hid hb2
      clear hb2
      go_wp2_with fail
      go_ret
      exact ⟨rfl, HJC.out.bel.trans (HB2.out.mono HJC.out.size)⟩
    · have hlim := limits_pos hok.lim
      have h256 := code_high hok
      have hmore := fun (t : List Int) (i2 t2 : Int) h1 h2 h3 h4 h5 h6 h7 => code_more (t := t) (ints' := i2) (texts' := t2) HBT.out.byte hok h1 h2 h3 h4 h5 h6 h7
      have hri := shapes_rise b.length v.stacks
      have hbd : ∀ p ∈ shapesV b.length v.stacks, 0 ≤ p.1 ∧ p.1 < (b.length : Int) := fun p hp => ⟨(shapes_mem.1 hp).1, (shapes_mem.1 hp).2.1⟩
      have hst : ∀ p ∈ shapesV b.length v.stacks, p.2.length ≤ 256 := fun p hp => by
        obtain ⟨m, hm⟩ := hok.ok
        exact hm.high _ _ (shapes_mem.1 hp).2.2
      have hll : (shapesV b.length v.stacks).length ≤ b.length := by
        unfold shapesV
        refine Nat.le_trans (List.length_filterMap_le _ _) ?_
        simp
      obtain ⟨L, hL⟩ : ∃ L, shapesV b.length v.stacks = L := ⟨_, rfl⟩
      have hto : topV L = highV L := rfl
      rw [hL] at hc h256 hri hbd hst hll
      simp only [hL] at hmore
      obtain ⟨H, hH⟩ : ∃ H, highV L = H := ⟨_, rfl⟩
      rw [hH] at hc h256 hto
      simp only [hH] at hmore
      rw [HN.out] at hlim hbd hll
      rw [HNS.out] at hlim
      simp only [HN.out] at hmore
      have hT : T = (L, H, 0, 0) := by rw [← HT.out, hc]
      rw [hT] at f0 f1 ⊢
      have hsh : ShapesAt wc B u5 L := by have := HSH.out; rw [hT] at this; exact this
      obtain ⟨l1, l2, _, l4, l5, l6, l7, l8, _, _, l11⟩ := hlim
      have hrs := rises_any wc B u5 L n H hsh (by omega) hri hbd (by omega) hst hto (by omega)
      obtain ⟨A5, c5, rfl, _⟩ := shapes_cell hsh
      obtain ⟨m, hm⟩ : ∃ m, L.length = m := ⟨_, rfl⟩
      rw [hm] at hrs hll ⊢
      have HRS := Lib.hid hrs
      have HMO := Lib.hid hmore
      have HS := Lib.hid hsh
      have HM := Lib.hid hm
      have HST := Lib.hid hst
      have hjc := HJC.out.cells
      obtain ⟨y0, y1, y2, y3⟩ := hjc
      have hBlt := HJC.out.blk.lt
      clear hmore hri hbd hst hL hH hc hT hsh hrs hm hto hok HSH HF HNIL HT
      go_wp2_with fail
      refine HRS.out.mono ?_
      rintro e w2 ⟨rfl, k, rfl⟩
      have hbW := below_drewNs (Below.refl wc.heap.size wc) k
      obtain ⟨W, hW⟩ : ∃ W, wc.drewN k = W := ⟨_, rfl⟩
      rw [hW] at hbW ⊢
      have hjW := HJC.out.below hbW
      have hsW := HS.out.below hbW
      obtain ⟨x0, x1, x2, x3⟩ := hjW.cells
      have HJW := Lib.hid hjW
      have HSW := Lib.hid hsW
      have HBW := Lib.hid hbW
      have hWz := hbW.size
      clear hbW hjW hsW hW f0 f1 f2 f3
      go_wp2_with fail
      refine (HCB.out W HJW.out hn16).mono ?_
      rintro e wa ⟨A1, c1, rfl, _, _, hoA, hjA, hbA⟩
      have HOA := Lib.hid hoA
      have HBA := Lib.hid hbA
      have hza := hbA.size
      clear hoA hjA hbA
      go_wp2_with (at_builtin; go_loud (refine wpList_append1 byteV_el rfl _ _ rfl W.heap.size wa [.int .u8 34] rfl _ _ _ rfl HOA.out rfl rfl (by simp [Value.oneCell']) (by unfold maxLen; omega) (by omega) (by omega) ?_; intro v8 w8 hown8 hg8; obtain ⟨A8, c8, rfl⟩ := own_form hown8; have hb8 := HBA.out.grown hg8 hza (fun g hg => (HOA.out.lt g hg).1); have hj8 := HJW.out.below hb8; obtain ⟨r0, r1, r2, r3⟩ := hj8.cells; have HO8 := Lib.hid hown8; have HJ8 := Lib.hid hj8; have HB8 := Lib.hid hb8; clear hown8 hg8 hb8 hj8))
      refine (HCS.out w8 HJ8.out hns16).mono ?_
      rintro e wb ⟨A9, c9, rfl, _, ho9, hj9, hb9⟩
      obtain ⟨s0, s1, s2, s3⟩ := hj9.cells
      have HO9 := Lib.hid ho9
      have HJ9 := Lib.hid hj9
      have HB9 := Lib.hid hb9
      have hz9 := hb9.size
      clear ho9 hj9 hb9
      go_upto_region 10 with fail
      go_cut [91] (fun v91 wx => v91 = .bool (decide (ns < 32 ∧ 1 ≤ kind ∧ kind ≤ 6)) ∧ wb = wx)
      case first =>
        by_cases k1 : ns < 32
        · have d1 : decide ((ns : Int) < 32) = true := decide_eq_true (by omega)
          by_cases k2 : 1 ≤ kind
          · have d2 : decide ((1 : Int) ≤ kind) = true := by simpa using k2
            by_cases k3 : kind ≤ 6
            · have d3 : decide (kind ≤ (6 : Int)) = true := by simpa using k3
              have HK := Lib.hid (decide_eq_true (⟨k1, k2, k3⟩ : ns < 32 ∧ 1 ≤ kind ∧ kind ≤ 6))
              clear k1 k2 k3
              go_wp2_with fail
              go_meet
              exact ⟨by rw [HK.out], rfl⟩
            · have d3 : decide (kind ≤ (6 : Int)) = false := by simpa using k3
              have HK := Lib.hid (decide_eq_false (fun h : ns < 32 ∧ 1 ≤ kind ∧ kind ≤ 6 => k3 h.2.2))
              clear k1 k2 k3
              go_wp2_with fail
              go_meet
              exact ⟨by rw [HK.out], rfl⟩
          · have d2 : decide ((1 : Int) ≤ kind) = false := by simpa using k2
            have HK := Lib.hid (decide_eq_false (fun h : ns < 32 ∧ 1 ≤ kind ∧ kind ≤ 6 => k2 h.2.1))
            clear k1 k2
            go_wp2_with fail
            go_meet
            exact ⟨by rw [HK.out], rfl⟩
        · have d1 : decide ((ns : Int) < 32) = false := decide_eq_false (by omega)
          have HK := Lib.hid (decide_eq_false (fun h : ns < 32 ∧ 1 ≤ kind ∧ kind ≤ 6 => k1 h.1))
          clear k1
          go_wp2_with fail
          go_meet
          exact ⟨by rw [HK.out], rfl⟩
      case rest =>
        obtain ⟨rfl, rfl⟩ := hcut
        obtain ⟨q, hq⟩ : ∃ q, decide (ns < 32 ∧ 1 ≤ kind ∧ kind ≤ 6) = q := ⟨_, rfl⟩
        rw [hq]
        have hqk : q = true → ns < 32 ∧ 1 ≤ kind ∧ kind ≤ 6 := fun h => by rw [h] at hq; exact of_decide_eq_true hq
        have HQK := Lib.hid hqk
        clear hq hqk
        go_upto_if 91 with fail
        go_cut [9] (fun v9 wx => ∃ (t : List Int) (A : Option Addr) (c : Nat), v9 = .slice A (ns + t.length) c ∧ SmallsAt wx A (slots ++ t) ∧ (∀ k ∈ t, 1 ≤ k ∧ k ≤ 6) ∧ ns + t.length ≤ 32 ∧ Below w8.heap.size w8 wx)
        case first =>
          cases q with
          | false =>
            go_wp2_with fail
            go_meet
            exact ⟨[], A9, c9, rfl, by rw [List.append_nil]; exact (own_smallV HO9.out).1, by simp, by simpa using l2, HB9.out⟩
          | true =>
            go_wp2_with (at_builtin; go_loud (refine wpList_append1 slot_el rfl _ _ rfl w8.heap.size wb [.int .i8 kind] rfl _ _ _ rfl HO9.out rfl rfl (by simp [Value.oneCell']) (by unfold maxLen; omega) (by omega) (by omega) ?_; intro v9 w9 hown9 hg9; obtain ⟨A10, c10, rfl⟩ := own_form hown9; have hb10 := HB9.out.grown hg9 hz9 (fun g hg => (HO9.out.lt g hg).1); have HO10 := Lib.hid hown9; have HB10 := Lib.hid hb10; clear hown9 hg9 hb10))
            go_meet
            obtain ⟨k1, k2, k3⟩ := HQK.out trivial
            refine ⟨[kind], A10, c10, rfl, ?_, by simpa using ⟨k2, k3⟩, by simp; omega, HB10.out⟩
            refine (own_smallV (S := w8.heap.size) (l := slots ++ [kind]) (n := ns + 1) (c := c10) ?_).1
            have h := HO10.out
            unfold smallV at h ⊢
            rw [List.map_append]
            exact h
        case rest =>
          obtain ⟨t, A9', c9', rfl, hS9, ht, hns9, hb11⟩ := hcut
          have hb811 := HB8.out.trans (hb11.mono (by have := HB8.out.size; omega))
          have hj11 := HJW.out.below hb811
          obtain ⟨t0, t1, t2, t3⟩ := hj11.cells
          have hs11 := HSW.out.below hb811
          obtain ⟨hby8, hnl8, hnc8⟩ := own_byteV (l := b ++ [34]) (by have h := HO8.out; unfold byteV at h ⊢; rw [List.map_append]; exact h) (fun x hx => (List.mem_append.1 hx).elim (fun h => HBT.out.byte x h) (fun h => by rw [List.mem_singleton.1 h]; decide))
          have hby11 := hby8.below hb11
          have hz11 := hb11.size
          have HJ11 := Lib.hid hj11
          have HS11 := Lib.hid hs11
          have HBY11 := Lib.hid hby11
          have HS9 := Lib.hid hS9
          have HTK := Lib.hid ht
          clear hb811 hj11 hs11 hby11 hS9 ht hby8 hb11 s0 s1 s2 s3 r0 r1 r2 r3
          have hw1 : IntKind.i64.wrap (ints + 1) = ints + 1 := by rw [IntKind.wrap_i64]; omega
          have hw2 : IntKind.i64.wrap (texts + 1) = texts + 1 := by rw [IntKind.wrap_i64]; omega
          go_upto_region 12 with fail
          go_cut [10] (fun v10 wx => v10 = .int .i64 (min (ints + 1) 4096) ∧ wc = wx)
          case first =>
            go_wp2_with fail
            all_goals
              go_meet
              exact ⟨rfl, rfl⟩
          case rest =>
            obtain ⟨rfl, rfl⟩ := hcut
            obtain ⟨i2, hi2⟩ : ∃ i2, min (ints + 1) 4096 = i2 := ⟨_, rfl⟩
            rw [hi2]
            have hi3 : ints ≤ i2 ∧ i2 ≤ 4096 := by omega
            obtain ⟨hi4, hi5⟩ := hi3
            clear hi2
            go_upto_region 13 with fail
            go_cut [11] (fun v11 wx => v11 = .int .i64 (min (texts + 1) 4096) ∧ wc = wx)
            case first =>
              go_wp2_with fail
              all_goals
                go_meet
                exact ⟨rfl, rfl⟩
            case rest =>
              obtain ⟨rfl, rfl⟩ := hcut
              obtain ⟨x2, hx2⟩ : ∃ x2, min (texts + 1) 4096 = x2 := ⟨_, rfl⟩
              rw [hx2]
              have hx3 : texts ≤ x2 ∧ x2 ≤ 4096 := by omega
              obtain ⟨hx4, hx5⟩ := hx3
              clear hx2
              have hmo := HMO.out t i2 x2 hi4 hi5 hx4 hx5
              by_cases h65 : 65535 < n + 1
              · have d65 : decide ((65535 : Int) < (n : Int) + 1) = true := decide_eq_true (by omega)
                clear hmo h65
                go_wp2_with fail
                refine (works20_any _).mono ?_
                rintro e wz ⟨rfl, hbz⟩
                have HBZ := Lib.hid hbz
                clear hbz
                go_wp2_with fail
                go_ret
                exact ⟨rfl, HJ11.out.bel.trans (HBZ.out.mono HJ11.out.size)⟩
              have d65 : decide ((65535 : Int) < (n : Int) + 1) = false := decide_eq_false (by omega)
              have hmo2 := hmo (by omega) (by rw [List.length_append, HNS.out]; exact hns9) HTK.out
              have hlb : (b ++ [34]).length = n + 1 := by rw [List.length_append, HN.out]; rfl
              have hls : (slots ++ t).length = ns + t.length := by rw [List.length_append, HNS.out]
              have hcode := code_any wc A8 A9' (b ++ [34]) (slots ++ t) c8 c9' i2 x2 HBY11.out (by omega) (by omega) (by omega) HS9.out
              rw [hmo2, hlb, hls] at hcode
              have HCO := Lib.hid hcode
              clear hmo hmo2 hcode hlb hls h65
              go_wp2_with fail
              refine HCO.out.mono ?_
              rintro e wd ⟨v12, rfl, hs12, _, hbd⟩
              have hbo := Below.refl wd.heap.size wd |>.alloc (Nat.le_refl _) (.cells #[.int .i64 0, .int .i64 0, .int .i64 0, .int .i64 0] 64)
              obtain ⟨A12, c12, rfl, hc12⟩ := shapes_cell (hs12.below hbo)
              obtain ⟨A5', c5', e5, hc5⟩ := shapes_cell ((HS11.out.below hbd).below hbo)
              injection e5 with e5 _ e6
              subst e5 e6
              have hbw : Below B w (wd.alloc (.cells #[.int .i64 0, .int .i64 0, .int .i64 0, .int .i64 0] 64)) := (HJ11.out.bel.trans (hbd.mono HJ11.out.size)).trans (hbo.mono (Nat.le_trans HJ11.out.size hbd.size))
              have hwdz : B ≤ wd.heap.size := Nat.le_trans HJ11.out.size hbd.size
              have hjd := HJ11.out.below hbd
              obtain ⟨t0, t1, t2, t3⟩ := hjd.cells
              simp only [HM.out]
              have HC12 := Lib.hid hc12
              have HC5 := Lib.hid hc5
              have HBWD := Lib.hid hbw
              clear hs12 hbd hc12 hc5 hbw hjd hbo
              go_wp2_with fail
              obtain ⟨WD, hWD⟩ : ∃ WD, wd.alloc (.cells #[.int .i64 0, .int .i64 0, .int .i64 0, .int .i64 0] 64) = WD := ⟨_, rfl⟩
              rw [hWD] at HC12 HC5 HBWD ⊢
              clear hWD t0 t1 t2 t3
              go_loopw [15] (fun iv wr => ∃ k : Nat, k ≤ m ∧ iv = .int .i64 k ∧ ∃ j, wr = WD.drewN j) (fun iv _ => m - (intOf iv).toNat)
              case atStart => exact ⟨0, by omega, rfl, 0, rfl⟩
              case round =>
                obtain ⟨k, hk, rfl, j, rfl⟩ := hrel
                by_cases hlt : k < m
                · obtain ⟨p, hp⟩ : ∃ p, L[k]? = some p := ⟨_, List.getElem?_eq_getElem (by rw [HM.out]; exact hlt)⟩
                  obtain ⟨g5, A3, c3, rfl, hg5, a1, a2, ho5⟩ := HC5.out k p hp
                  obtain ⟨g6, A4, c4, rfl, hg6, b1, b2, ho6⟩ := HC12.out k p hp
                  obtain ⟨pa, ps⟩ := p
                  simp only at a1 a2 b1 b2 ho5 ho6
                  have hp256 := HST.out _ (List.mem_of_getElem? hp)
                  simp only at hp256
                  obtain ⟨WJ, hWJ⟩ : ∃ WJ, WD.drewN j = WJ := ⟨_, rfl⟩
                  have hcj : ∀ p, WJ.cell? p = WD.cell? p := fun p => by rw [← hWJ]; rfl
                  have heq := fun q => eqSmalls_any A3 A4 c3 c4 ps ps (WJ.drewN q) (by omega) (by omega) (fun i x hi => by obtain ⟨b2, o2, e1, _, e3⟩ := (own_smallV ho5).1 i x hi; exact ⟨b2, o2, e1, (hcj _).trans e3⟩) (fun i x hi => by obtain ⟨b2, o2, e1, _, e3⟩ := (own_smallV ho6).1 i x hi; exact ⟨b2, o2, e1, (hcj _).trans e3⟩)
                  simp only [decide_true] at heq
                  obtain ⟨len, hlen⟩ : ∃ len, ps.length = len := ⟨_, rfl⟩
                  rw [hlen] at a2 b2 heq
                  rw [← hcj] at a1 a2 b1 b2
                  rw [hWJ]
                  have HWJ := Lib.hid hWJ
                  have hgz : g5 < WJ.heap.size ∧ g6 < WJ.heap.size := by rw [← hWJ]; exact ⟨hg5, hg6⟩
                  obtain ⟨hg7, hg8⟩ := hgz
                  have HEQ := Lib.hid heq
                  clear heq ho5 ho6 hp hlen hp256 hcj hWJ
                  go_wp2_with fail
                  go_quiet ((go_at_call 35; exact Calls.quiet_of (HEQ.out _)))
                  go_wp2_with fail
                  go_roundw
                  case rel => exact ⟨k + 1, by omega, by go_num, j + nq, by rw [← HWJ.out, World.drewN_drewN]⟩
                  case measure => (simp [intOf]; try omega)
                · go_wp2_with fail
                  refine (works20_any _).mono ?_
                  rintro e wz ⟨rfl, hbz⟩
                  have HBZ := Lib.hid hbz
                  clear hbz
                  go_wp2_with fail
                  go_ret
                  exact ⟨rfl, (below_drewNs HBWD.out j).trans (HBZ.out.mono (by have h := HBWD.out.size; rw [hBe] at h; exact h))⟩
end
end Go.Proofs.Ytggibiodeecljaa
