/- verify: checker.numbers. -/
import Derived.Deep.QuietTactic
import Derived.BigQuiet
import Derived.Test.YtabpheanbomibaaGreatDoorVer1
namespace Go.Proofs.YtabpheanbomibaaGreatDoor
open Go.RowKit
set_option linter.unusedVariables false

/-- The checker in memory. -/
def CkAt (w : World) (kb : Nat) (bv sv : Value) (ints texts : Int) (ib sb hb : Nat) : Prop := Blk w kb 92 #[bv, sv, .int .i64 ints, .int .i64 texts, .map (some ib), .map (some sb), .pointer (some ⟨hb, 0, none⟩)]
theorem zero_i64v (w : World) : (zeroValue 3).run Tryz.prog w = .ok (.int .i64 0) w := by kernel_rfl
noncomputable def poolF (ints texts : Int) : Int → Option Value := upd keyB (upd keyB (upd keyB (upd keyB (upd keyB (fun _ => none) (1 : Int) (some (.int .i64 ints))) (45 : Int) (some (.int .i64 texts))) (41 : Int) (some (.int .i64 4))) (46 : Int) (some (.int .i64 13))) (60 : Int) (some (.int .i64 9))
theorem poolF_at (ints texts op : Int) : poolF ints texts op = (poolV ints texts op).map (Value.int .i64) := by
  unfold poolF poolV
  simp only [updB]
  by_cases h1 : op = 1
  · subst h1; rfl
  by_cases h2 : op = 45
  · subst h2; rfl
  by_cases h3 : op = 41
  · subst h3; rfl
  by_cases h4 : op = 46
  · subst h4; rfl
  by_cases h5 : op = 60
  · subst h5; rfl
  simp [h1, h2, h3, h4, h5]
/-- Where a store into a map leads. -/
noncomputable def upW {κ : Type} {kt : TypeId} (P : Program) (t : TypeId) (K : KeyT P kt κ) (b : Nat) (w : World) (k : κ) (v : Value) : World := match (Instr.mapUpdate t (.map (some b)) (K.emb k) v).run P w with
  | .ok _ w' => w'
  | .halt _ w' => w'
theorem upW_ok {κ : Type} {kt e : TypeId} {P : Program} {t : TypeId} {K : KeyT P kt κ} {b : Nat} (ht : P.underlying t = some (.map kt e)) (w : World) (k : κ) (v : Value) (f : κ → Option Value) (h : MK K w b f) :
    (Instr.mapUpdate t (.map (some b)) (K.emb k) v).run P w = .ok () (upW P t K b w k v) ∧ MK K (upW P t K b w k v) b (upd K f k (some v)) ∧ w.grownBy (upW P t K b w k v) (some b) := by
  obtain ⟨w', r, m, g⟩ := h.update K ht k v
  have e : upW P t K b w k v = w' := by unfold upW; rw [r]
  rw [e]
  exact ⟨r, m, g⟩
/-- The pool's table, in whatever order it was written. -/
def PoolAt (W wx : World) (mv : Value) (ints texts : Int) : Prop := ∃ f, mv = .map (some W.heap.size) ∧ MK keyB wx W.heap.size f ∧ (∀ y, f y = (poolV ints texts y).map (Value.int .i64)) ∧ Below W.heap.size W wx
/-- A table is there. -/
def HasM (W wx : World) : Prop := (∃ f, MK keyB wx W.heap.size f) ∧ Below W.heap.size W wx
theorem pool_fn (ints texts : Int) (f : Int → Option Value) (h1 : f 1 = some (.int .i64 ints)) (h2 : f 45 = some (.int .i64 texts)) (h3 : f 41 = some (.int .i64 4)) (h4 : f 46 = some (.int .i64 13)) (h5 : f 60 = some (.int .i64 9)) (h6 : ∀ y, y ≠ 1 → y ≠ 45 → y ≠ 41 → y ≠ 46 → y ≠ 60 → f y = none) (y : Int) : f y = (poolV ints texts y).map (Value.int .i64) := by
  unfold poolV
  by_cases c1 : y = 1
  · subst c1; rw [h1]; rfl
  by_cases c2 : y = 45
  · subst c2; rw [h2]; rfl
  by_cases c3 : y = 41
  · subst c3; rw [h3]; rfl
  by_cases c4 : y = 46
  · subst c4; rw [h4]; rfl
  by_cases c5 : y = 60
  · subst c5; rw [h5]; rfl
  rw [h6 y c1 c2 c3 c4 c5, if_neg c1, if_neg c2, if_neg c3, if_neg c4, if_neg c5]; rfl
theorem pool_cases (y : Int) : y = 1 ∨ y = 45 ∨ y = 41 ∨ y = 46 ∨ y = 60 ∨ (y ≠ 1 ∧ y ≠ 45 ∧ y ≠ 41 ∧ y ≠ 46 ∧ y ≠ 60) := by omega
section
variable (w : World) (kb ib sb hb : Nat) (bv : Value) (SA : Option Addr) (slots : List Int) (sc : Nat) (ints texts : Int) (x : Ins)
set_option maxRecDepth 100000 in
set_option maxHeartbeats 40000000 in
theorem numbers_any (hK : CkAt w kb bv (.slice SA slots.length sc) ints texts ib sb hb) (hS : SmallsAt w SA slots) (hs : slots.length ≤ 1000) (ha : 0 ≤ x.a) (hbb : 0 ≤ x.b) :
    Calls Tryz.prog 80 #[.pointer (some ⟨kb, 0, none⟩), .agg x.cells] w fun e w' => e = .returned (.int .i64 (numbersV slots ints texts x)) ∧ Below w.heap.size w w' := by
  obtain ⟨xa, xo, xA, xB, xC⟩ := x
  simp only at ha hbb
  obtain ⟨R, hR⟩ : ∃ R, R = numbersV slots ints texts ⟨xa, xo, xA, xB, xC⟩ := ⟨_, rfl⟩
  rw [← hR]
  unfold numbersV at hR
  simp only at hR
  have hBW : Below w.heap.size w (w.alloc (.cells #[.int .i64 xa, .int .u8 xo, .int .i64 xA, .int .i64 xB, .int .i64 xC] 100)) := (Below.refl _ _).alloc (Nat.le_refl _) _
  have hcell : ∀ z : Int, 0 ≤ z → z < (slots.length : Int) → ∃ b off, SA = some ⟨b, off, none⟩ ∧ b < w.heap.size ∧ w.cell? ⟨b, off + z.toNat, none⟩ = some (.int .i8 (slots.getD z.toNat 0)) := fun z h0 h1 => by
    obtain ⟨b, off, h2, h3, h4⟩ := hS z.toNat _ (List.getElem?_eq_getElem (by omega))
    exact ⟨b, off, h2, h3, by rw [h4, List.getD_eq_getElem?_getD, List.getElem?_eq_getElem (by omega)]; rfl⟩
  obtain ⟨n, hn⟩ : ∃ n, slots.length = n := ⟨_, rfl⟩
  unfold CkAt at hK
  rw [hn] at hR hs hcell hK
  have hkl := hK.lt
  have k1 := hK.cell 1
  have k2 := hK.cell 2
  have k3 := hK.cell 3
  have HR := Lib.hid hR
  have HBW := Lib.hid hBW
  have HC := Lib.hid hcell
  have HK := Lib.hid hK
  clear hR hBW hcell hK hS hn
  unfold Ins.cells
  by_cases c4 : xo = 4 ∨ xo = 5
  · have hr : R = if (n : Int) ≤ xA then 43 else 0 := by rw [HR.out, if_pos c4]
    have HR2 := Lib.hid hr
    clear hr
    by_cases q : (n : Int) ≤ xA
    · have hr : R = 43 := by rw [HR2.out, if_pos q]
      have HR3 := Lib.hid hr
      clear hr
      rcases c4 with rfl | rfl
      all_goals
        go_enter Tryz.func80, Tryz.ntmps80
        go_wp2_with fail
        go_ret
        exact ⟨ret_i64 HR3.out.symm, HBW.out⟩
    · have hr : R = 0 := by rw [HR2.out, if_neg q]
      have HR3 := Lib.hid hr
      clear hr
      rcases c4 with rfl | rfl
      all_goals
        go_enter Tryz.func80, Tryz.ntmps80
        go_wp2_with fail
        go_ret
        exact ⟨ret_i64 HR3.out.symm, HBW.out⟩
  have c4a : (xo == 4) = false := by simp; omega
  have c4b : (xo == 5) = false := by simp; omega
  have hr : R = if xo = 32 then (if (n : Int) ≤ xA ∨ (n : Int) ≤ xB then 43 else if slots.getD xA.toNat 0 ≠ 6 ∨ slots.getD xB.toNat 0 ≠ 1 then 46 else 0) else if xo = 24 then (if xA < 1 ∨ 5 < xA then 42 else 0) else match poolV ints texts xo with | some m => if m ≤ xA then 42 else 0 | none => 0 := by
    rw [HR.out, if_neg c4]; rfl
  have HR1 := Lib.hid hr
  clear hr HR
  by_cases c32 : xo = 32
  · subst c32
    have hr := HR1.out
    rw [if_pos rfl] at hr
    have HR2 := Lib.hid hr
    clear hr HR1
    by_cases q1 : (n : Int) ≤ xA
    · have d1 : decide ((n : Int) ≤ xA) = true := by simpa using q1
      have hr : R = 43 := by rw [HR2.out, if_pos (.inl q1)]
      have HR3 := Lib.hid hr
      clear hr
      go_enter Tryz.func80, Tryz.ntmps80
      go_wp2_with fail
      go_ret
      exact ⟨ret_i64 HR3.out.symm, HBW.out⟩
    have d1 : decide ((n : Int) ≤ xA) = false := by simpa using q1
    by_cases q2 : (n : Int) ≤ xB
    · have d2 : decide ((n : Int) ≤ xB) = true := by simpa using q2
      have hr : R = 43 := by rw [HR2.out, if_pos (.inr q2)]
      have HR3 := Lib.hid hr
      clear hr
      go_enter Tryz.func80, Tryz.ntmps80
      go_wp2_with fail
      go_ret
      exact ⟨ret_i64 HR3.out.symm, HBW.out⟩
    have d2 : decide ((n : Int) ≤ xB) = false := by simpa using q2
    obtain ⟨sb, so, rfl, hsl, hcA⟩ := HC.out xA ha (by omega)
    obtain ⟨sb2, so2, e9, _, hcB⟩ := HC.out xB hbb (by omega)
    injection e9 with e9
    injection e9 with e91 e92
    subst e91 e92
    have hr := HR2.out
    rw [if_neg (by omega)] at hr
    obtain ⟨vA, hvA⟩ : ∃ v, slots.getD xA.toNat 0 = v := ⟨_, rfl⟩
    obtain ⟨vB, hvB⟩ : ∃ v, slots.getD xB.toNat 0 = v := ⟨_, rfl⟩
    rw [hvA, hvB] at hr
    rw [hvA] at hcA
    rw [hvB] at hcB
    have HR3 := Lib.hid hr
    have iA : xA < (n : Int) := by omega
    have iB : xB < (n : Int) := by omega
    clear hr HR2 hvA hvB
    by_cases q3 : vA = 6
    · have d3 : (vA != 6) = false := by simpa using q3
      by_cases q4 : vB = 1
      · have d4 : (vB != 1) = false := by simpa using q4
        have hr : R = 0 := by rw [HR3.out, if_neg (by omega)]
        have HR4 := Lib.hid hr
        clear hr q3 q4
        go_enter Tryz.func80, Tryz.ntmps80
        go_wp2_with fail
        obtain ⟨W, hW⟩ : ∃ W, W = w.alloc (.cells #[.int .i64 xa, .int .u8 32, .int .i64 xA, .int .i64 xB, .int .i64 xC] 100) := ⟨_, rfl⟩
        have hbW := HBW.out
        rw [← hW] at hbW ⊢
        have i2 : W.cell? ⟨w.heap.size, 2, none⟩ = some (.int .i64 xA) := by rw [hW]; exact (Blk.new w _ _).cell 2
        have i3 : W.cell? ⟨w.heap.size, 3, none⟩ = some (.int .i64 xB) := by rw [hW]; exact (Blk.new w _ _).cell 3
        have kW := (hbW.cell (p := ⟨kb, 1, none⟩) hkl).trans k1
        have hA := (hbW.cell (p := ⟨sb, _, none⟩) hsl).trans hcA
        have hB := (hbW.cell (p := ⟨sb, _, none⟩) hsl).trans hcB
        have HBW2 := Lib.hid hbW
        clear hW hbW hcA hcB k1 k2 k3
        go_quiet (fail)
        go_wp2_with fail
        go_ret
        exact ⟨ret_i64 HR4.out.symm, below_drewNs HBW2.out _⟩
      · have d4 : (vB != 1) = true := by simpa using q4
        have hr : R = 46 := by rw [HR3.out, if_pos (.inr q4)]
        have HR4 := Lib.hid hr
        clear hr q3 q4
        go_enter Tryz.func80, Tryz.ntmps80
        go_wp2_with fail
        obtain ⟨W, hW⟩ : ∃ W, W = w.alloc (.cells #[.int .i64 xa, .int .u8 32, .int .i64 xA, .int .i64 xB, .int .i64 xC] 100) := ⟨_, rfl⟩
        have hbW := HBW.out
        rw [← hW] at hbW ⊢
        have i2 : W.cell? ⟨w.heap.size, 2, none⟩ = some (.int .i64 xA) := by rw [hW]; exact (Blk.new w _ _).cell 2
        have i3 : W.cell? ⟨w.heap.size, 3, none⟩ = some (.int .i64 xB) := by rw [hW]; exact (Blk.new w _ _).cell 3
        have kW := (hbW.cell (p := ⟨kb, 1, none⟩) hkl).trans k1
        have hA := (hbW.cell (p := ⟨sb, _, none⟩) hsl).trans hcA
        have hB := (hbW.cell (p := ⟨sb, _, none⟩) hsl).trans hcB
        have HBW2 := Lib.hid hbW
        clear hW hbW hcA hcB k1 k2 k3
        go_quiet (fail)
        go_wp2_with fail
        go_ret
        exact ⟨ret_i64 HR4.out.symm, below_drewNs HBW2.out _⟩
    · have d3 : (vA != 6) = true := by simpa using q3
      have hr : R = 46 := by rw [HR3.out, if_pos (.inl q3)]
      have HR4 := Lib.hid hr
      clear hr q3
      go_enter Tryz.func80, Tryz.ntmps80
      go_wp2_with fail
      obtain ⟨W, hW⟩ : ∃ W, W = w.alloc (.cells #[.int .i64 xa, .int .u8 32, .int .i64 xA, .int .i64 xB, .int .i64 xC] 100) := ⟨_, rfl⟩
      have hbW := HBW.out
      rw [← hW] at hbW ⊢
      have i2 : W.cell? ⟨w.heap.size, 2, none⟩ = some (.int .i64 xA) := by rw [hW]; exact (Blk.new w _ _).cell 2
      have i3 : W.cell? ⟨w.heap.size, 3, none⟩ = some (.int .i64 xB) := by rw [hW]; exact (Blk.new w _ _).cell 3
      have kW := (hbW.cell (p := ⟨kb, 1, none⟩) hkl).trans k1
      have hA := (hbW.cell (p := ⟨sb, _, none⟩) hsl).trans hcA
      have hB := (hbW.cell (p := ⟨sb, _, none⟩) hsl).trans hcB
      have HBW2 := Lib.hid hbW
      clear hW hbW hcA hcB k1 k2 k3
      go_quiet (fail)
      go_wp2_with fail
      go_ret
      exact ⟨ret_i64 HR4.out.symm, below_drewNs HBW2.out _⟩
  have c32b : (xo == 32) = false := by simpa using c32
  have hr := HR1.out
  rw [if_neg c32] at hr
  have HR2 := Lib.hid hr
  clear hr HR1
  by_cases c24 : xo = 24
  · subst c24
    have hr := HR2.out
    rw [if_pos rfl] at hr
    have HR3 := Lib.hid hr
    clear hr HR2
    by_cases q1 : xA < 1
    · have d1 : decide (xA < 1) = true := by simpa using q1
      have hr : R = 42 := by rw [HR3.out, if_pos (.inl q1)]
      have HR4 := Lib.hid hr
      clear hr
      go_enter Tryz.func80, Tryz.ntmps80
      go_wp2_with fail
      go_ret
      exact ⟨ret_i64 HR4.out.symm, HBW.out⟩
    have d1 : decide (xA < 1) = false := by simpa using q1
    by_cases q2 : 5 < xA
    · have d2 : decide (5 < xA) = true := by simpa using q2
      have hr : R = 42 := by rw [HR3.out, if_pos (.inr q2)]
      have HR4 := Lib.hid hr
      clear hr
      go_enter Tryz.func80, Tryz.ntmps80
      go_wp2_with fail
      go_ret
      exact ⟨ret_i64 HR4.out.symm, HBW.out⟩
    have d2 : decide (5 < xA) = false := by simpa using q2
    have hr : R = 0 := by rw [HR3.out, if_neg (by omega)]
    have HR4 := Lib.hid hr
    clear hr
    go_enter Tryz.func80, Tryz.ntmps80
    go_wp2_with fail
    go_ret
    exact ⟨ret_i64 HR4.out.symm, HBW.out⟩
  have c24b : (xo == 24) = false := by simpa using c24
  have hr := HR2.out
  rw [if_neg c24] at hr
  have HR3 := Lib.hid hr
  clear hr HR2
  go_enter Tryz.func80, Tryz.ntmps80
  go_wp2_with fail
  obtain ⟨W, hW⟩ : ∃ W, W = w.alloc (.cells #[.int .i64 xa, .int .u8 xo, .int .i64 xA, .int .i64 xB, .int .i64 xC] 100) := ⟨_, rfl⟩
  have hbW := HBW.out
  rw [← hW] at hbW ⊢
  have i1 : W.cell? ⟨w.heap.size, 1, none⟩ = some (.int .u8 xo) := by rw [hW]; exact (Blk.new w _ _).cell 1
  have i2 : W.cell? ⟨w.heap.size, 2, none⟩ = some (.int .i64 xA) := by rw [hW]; exact (Blk.new w _ _).cell 2
  have hzW : w.heap.size < W.heap.size := by rw [hW]; simp
  have hmm := @run_makeMap Tryz.prog
  have m0 := (MK.made keyB W).drew keyB
  have kd : CkAt W.drew kb bv (.slice SA n sc) ints texts ib sb hb := HK.out.below hbW.drew hkl
  have id : Blk W.drew w.heap.size 100 #[.int .i64 xa, .int .u8 xo, .int .i64 xA, .int .i64 xB, .int .i64 xC] := by rw [hW]; exact (Blk.new w _ _).drew
  have hB0 : Below W.heap.size W (W.alloc (.map #[] 0)).drew := ((Below.refl _ _).alloc (Nat.le_refl _) _).drew
  have hkW : kb < W.heap.size := by omega
  have sx : ∀ wx, Below W.heap.size W wx → wx.cell? ⟨kb, 2, none⟩ = some (.int .i64 ints) ∧ wx.cell? ⟨kb, 3, none⟩ = some (.int .i64 texts) := fun wx h => ⟨(h.cell (p := ⟨kb, 2, none⟩) hkW).trans (kd.cell 2), (h.cell (p := ⟨kb, 3, none⟩) hkW).trans (kd.cell 3)⟩
  have sA : W.drew.cell? ⟨kb, 2, none⟩ = some (.int .i64 ints) ∧ W.drew.cell? ⟨kb, 3, none⟩ = some (.int .i64 texts) := sx W.drew ((Below.refl _ _).drew)
  obtain ⟨U, hU⟩ : ∃ U : World → Int → Value → World, U = upW Tryz.prog 203 keyB W.heap.size := ⟨_, rfl⟩
  have hok : ∀ wx k v f, MK keyB wx W.heap.size f → (Instr.mapUpdate 203 (.map (some W.heap.size)) (.int .u8 k) v).run Tryz.prog wx = .ok () (U wx k v) ∧ MK keyB (U wx k v) W.heap.size (upd keyB f k (some v)) ∧ wx.grownBy (U wx k v) (some W.heap.size) := fun wx k v f h => by
    rw [hU]; exact upW_ok Tryz.underlying203 wx k v f h
  have g0 : HasM W (W.alloc (.map #[] 0)).drew := ⟨⟨_, m0⟩, hB0⟩
  have gU : ∀ wx k v, HasM W wx → HasM W (U wx k v) := fun wx k v h => by
    obtain ⟨⟨f, hf⟩, hb⟩ := h
    obtain ⟨_, h2, h3⟩ := hok wx k v f hf
    exact ⟨⟨_, h2⟩, hb.grown h3 hb.size (fun k hk => by injection hk with hk; omega)⟩
  have gS : ∀ wx, HasM W wx → wx.cell? ⟨kb, 2, none⟩ = some (.int .i64 ints) ∧ wx.cell? ⟨kb, 3, none⟩ = some (.int .i64 texts) := fun wx h => sx wx h.2
  have gR : ∀ wx k v, HasM W wx → (Instr.mapUpdate 203 (.map (some W.heap.size)) (.int .u8 k) v).run Tryz.prog wx = .ok () (U wx k v) := fun wx k v h => by
    obtain ⟨⟨f, hf⟩, hb⟩ := h
    exact (hok wx k v f hf).1
  have gM : ∀ wx k v f, MK keyB wx W.heap.size f ∧ Below W.heap.size W wx → MK keyB (U wx k v) W.heap.size (upd keyB f k (some v)) ∧ Below W.heap.size W (U wx k v) := fun wx k v f h => by
    obtain ⟨_, h2, h3⟩ := hok wx k v f h.1
    exact ⟨h2, h.2.grown h3 h.2.size (fun k hk => by injection hk with hk; omega)⟩
  have mb0 : MK keyB (W.alloc (.map #[] 0)).drew W.heap.size (fun _ => none) ∧ Below W.heap.size W (W.alloc (.map #[] 0)).drew := ⟨m0, hB0⟩
  have MB0 := Lib.hid mb0
  have GM := Lib.hid gM
  have GU := Lib.hid gU
  have g5 : ∀ (a1 : Int) (b1 : Value) (a2 : Int) (b2 : Value) (a3 : Int) (b3 : Value) (a4 : Int) (b4 : Value) (a5 : Int) (b5 : Value),
      upd keyB (upd keyB (upd keyB (upd keyB (upd keyB (fun _ => none) a1 (some b1)) a2 (some b2)) a3 (some b3)) a4 (some b4)) a5 (some b5) (1 : Int) = some (.int .i64 ints) →
      upd keyB (upd keyB (upd keyB (upd keyB (upd keyB (fun _ => none) a1 (some b1)) a2 (some b2)) a3 (some b3)) a4 (some b4)) a5 (some b5) (45 : Int) = some (.int .i64 texts) →
      upd keyB (upd keyB (upd keyB (upd keyB (upd keyB (fun _ => none) a1 (some b1)) a2 (some b2)) a3 (some b3)) a4 (some b4)) a5 (some b5) (41 : Int) = some (.int .i64 4) →
      upd keyB (upd keyB (upd keyB (upd keyB (upd keyB (fun _ => none) a1 (some b1)) a2 (some b2)) a3 (some b3)) a4 (some b4)) a5 (some b5) (46 : Int) = some (.int .i64 13) →
      upd keyB (upd keyB (upd keyB (upd keyB (upd keyB (fun _ => none) a1 (some b1)) a2 (some b2)) a3 (some b3)) a4 (some b4)) a5 (some b5) (60 : Int) = some (.int .i64 9) →
      (∀ y : Int, y ≠ 1 → y ≠ 45 → y ≠ 41 → y ≠ 46 → y ≠ 60 → upd keyB (upd keyB (upd keyB (upd keyB (upd keyB (fun _ => none) a1 (some b1)) a2 (some b2)) a3 (some b3)) a4 (some b4)) a5 (some b5) y = none) →
      PoolAt W (U (U (U (U (U (W.alloc (.map #[] 0)).drew a1 b1) a2 b2) a3 b3) a4 b4) a5 b5) (.map (some W.heap.size)) ints texts := fun a1 b1 a2 b2 a3 b3 a4 b4 a5 b5 h1 h2 h3 h4 h5 h6 => by
    have hm := gM _ a5 b5 _ (gM _ a4 b4 _ (gM _ a3 b3 _ (gM _ a2 b2 _ (gM _ a1 b1 _ mb0))))
    exact ⟨_, rfl, hm.1, pool_fn ints texts _ h1 h2 h3 h4 h5 h6, hm.2⟩
  have G5 := Lib.hid g5
  clear g5
  have g1 : ∀ a1 b1, HasM W (U (W.alloc (.map #[] 0)).drew a1 b1) := fun a1 b1 => gU _ _ _ g0
  have g2 : ∀ a1 b1 a2 b2, HasM W (U (U (W.alloc (.map #[] 0)).drew a1 b1) a2 b2) := fun a1 b1 a2 b2 => gU _ _ _ (g1 _ _)
  have g3 : ∀ a1 b1 a2 b2 a3 b3, HasM W (U (U (U (W.alloc (.map #[] 0)).drew a1 b1) a2 b2) a3 b3) := fun a1 b1 a2 b2 a3 b3 => gU _ _ _ (g2 _ _ _ _)
  have g4 : ∀ a1 b1 a2 b2 a3 b3 a4 b4, HasM W (U (U (U (U (W.alloc (.map #[] 0)).drew a1 b1) a2 b2) a3 b3) a4 b4) := fun a1 b1 a2 b2 a3 b3 a4 b4 => gU _ _ _ (g3 _ _ _ _ _ _)
  clear gU
  have GS := Lib.hid gS
  have G0 := Lib.hid g0
  have HBW3 := Lib.hid hbW
  clear hok gM gS mb0 m0 sx hU hB0 kd id hW hbW k1 k2 k3
  go_cut [6] (fun mv wx => PoolAt W wx mv ints texts)
  case first =>
    go_region_held3 (fun w' => w'.cell? ⟨kb, 2, none⟩ = some (.int .i64 ints) ∧ w'.cell? ⟨kb, 3, none⟩ = some (.int .i64 texts)) (first | exact sA | (refine GS.out _ ?_; repeat (first | exact G0.out | refine GU.out _ _ _ ?_))) ((first | fail))
    all_goals
      go_wp2_with fail
      go_meet
      exact G5.out _ _ _ _ _ _ _ _ _ _ rfl rfl rfl rfl rfl (fun y c1 c2 c3 c4 c5 => by simp only [updB, if_neg c1, if_neg c2, if_neg c3, if_neg c4, if_neg c5])
  case rest =>
    obtain ⟨f, rfl, hmk, hf, hbl⟩ := hcut
    have j1 : wc.cell? ⟨w.heap.size, 1, none⟩ = some (.int .u8 xo) := (hbl.cell (p := ⟨w.heap.size, 1, none⟩) hzW).trans i1
    have j2 : wc.cell? ⟨w.heap.size, 2, none⟩ = some (.int .i64 xA) := (hbl.cell (p := ⟨w.heap.size, 2, none⟩) hzW).trans i2
    have hlk := hmk.lookup keyB Tryz.underlying203 zero_i64v xo true
    rw [hf] at hlk
    have BF := Lib.hid (HBW3.out.trans (hbl.mono HBW3.out.size))
    obtain ⟨o, ho⟩ : ∃ o, poolV ints texts xo = o := ⟨_, rfl⟩
    have hr := HR3.out
    rw [ho] at hr hlk
    have HR4 := Lib.hid hr
    clear hr HR3 ho hmk hf hbl gR g0 g1 g2 g3 g4 sA
    cases o with
    | none =>
      have hr : R = 0 := HR4.out
      have HR5 := Lib.hid hr
      have hl2 : (Instr.lookup 203 (.map (some W.heap.size)) (.int .u8 xo) true).run Tryz.prog wc = .ok (.tuple #[.int .i64 0, .bool false]) wc := hlk
      clear hr hlk
      go_wp2_with fail
      go_ret
      exact ⟨ret_i64 HR5.out.symm, BF.out⟩
    | some m =>
      have hl2 : (Instr.lookup 203 (.map (some W.heap.size)) (.int .u8 xo) true).run Tryz.prog wc = .ok (.tuple #[.int .i64 m, .bool true]) wc := hlk
      clear hlk
      by_cases q : m ≤ xA
      · have hr : R = 42 := by rw [HR4.out]; exact if_pos q
        have HR5 := Lib.hid hr
        clear hr
        go_wp2_with fail
        go_ret
        exact ⟨ret_i64 HR5.out.symm, BF.out⟩
      · have hr : R = 0 := by rw [HR4.out]; exact if_neg q
        have HR5 := Lib.hid hr
        clear hr
        go_wp2_with fail
        go_ret
        exact ⟨ret_i64 HR5.out.symm, BF.out⟩
end
end Go.Proofs.YtabpheanbomibaaGreatDoor
