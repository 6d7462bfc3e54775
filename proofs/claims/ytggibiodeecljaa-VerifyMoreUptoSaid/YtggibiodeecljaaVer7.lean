/- verify: the checker's memory; checker.give. -/
import Derived.Test.YtggibiodeecljaaVer6
import Derived.Test.YtggibiodeecljaaSmall
namespace Go.Proofs.Ytggibiodeecljaa
open Go.RowKit
set_option linter.unusedVariables false

/-- What the table of shapes holds. -/
def StkF (w : World) (B : Nat) (F : Int → Option Value) (st : Int → Option (List Int)) : Prop :=
  ∀ y, match st y with
    | none => F y = none
    | some s => ∃ A c, F y = some (.slice A s.length c) ∧ w.ownsRow B 40 1 (.slice A s.length c) s.length (s.map (Value.int .i8))
theorem StkF.frm {w w' : World} {B C : Nat} {T : List TypeId} {F : Int → Option Value} {st : Int → Option (List Int)} (h : StkF w B F st) (hf : Frm C T w w') (ht : 40 ∉ T) : StkF w' B F st := fun y => by
  have := h y
  cases hs : st y with
  | none => rw [hs] at this; exact this
  | some s =>
    rw [hs] at this
    obtain ⟨A, c, h1, h2⟩ := this
    exact ⟨A, c, h1, hf.own h2 ht⟩
theorem StkF.set {w : World} {B : Nat} {F : Int → Option Value} {st : Int → Option (List Int)} (h : StkF w B F st) {tg : Int} {s : List Int} {A : Option Addr} {c : Nat} (ho : w.ownsRow B 40 1 (.slice A s.length c) s.length (s.map (Value.int .i8))) :
    StkF w B (upd keyI F tg (some (.slice A s.length c))) (setV st tg s) := fun y => by
  unfold setV
  rw [upd_int]
  by_cases hy : y = tg
  · rw [if_pos hy, if_pos hy]; exact ⟨A, c, rfl, ho⟩
  · rw [if_neg hy, if_neg hy]; exact h y
/-- The checker, its tables, its heap. -/
structure VAt (w : World) (B kb ib sb hb : Nat) (bv sv : Value) (ints texts : Int) (l : List Ins) (v : VS) : Prop where
  ck : CkAt w kb bv sv ints texts ib sb hb
  hkb : B ≤ kb
  hib : B ≤ ib
  hsb : B ≤ sb
  ne : ib ≠ sb
  ins : MK keyI w ib (insF l)
  stk : ∃ F, MK keyI w sb F ∧ StkF w B F v.stacks
  heap : HeapAt w B hb v.heap v.came
section
variable {B kb ib sb hb : Nat} {bv sv : Value} {ints texts : Int} {l : List Ins} {v : VS}
theorem HeapAt.keep {w w' : World} {h : List HEnt} {came : Int} (k : HeapAt w B hb h came) (hf : Frm B [] w w') : HeapAt w' B hb h came := by
  obtain ⟨v, h1, h2, h3⟩ := k
  exact ⟨v, h1, hf.blk h2 (by simp), hf.own h3 (by simp)⟩
theorem VAt.below {w w' : World} (h : VAt w B kb ib sb hb bv sv ints texts l v) (hb' : Below w.heap.size w w') : VAt w' B kb ib sb hb bv sv ints texts l v := by
  obtain ⟨h1, h2, h3, h4, h5, h6, ⟨F, h7, h8⟩, h9⟩ := h
  exact ⟨Blk.below h1 hb' (Blk.lt h1), h2, h3, h4, h5, h6.of_block keyI (hb'.block _ (h6.lt keyI)), ⟨F, h7.of_block keyI (hb'.block _ (h7.lt keyI)), h8.frm (Frm.of_below (T := []) hb' (Nat.zero_le _) : Frm 0 [] w w') (by simp)⟩, h9.below hb'⟩
/-- A new shape. -/
theorem VAt.lay {w w' : World} (h : VAt w B kb ib sb hb bv sv ints texts l v) {tg : Int} {s : List Int} {A : Option Addr} {c : Nat} {F : Int → Option Value} (hm : MK keyI w sb F) (hs : StkF w B F v.stacks) (ho : w.ownsRow B 40 1 (.slice A s.length c) s.length (s.map (Value.int .i8)))
    (m' : MK keyI w' sb (upd keyI F tg (some (.slice A s.length c)))) (g : w.grownBy w' (some sb)) (hB : B ≤ w.heap.size) :
    VAt w' B kb ib sb hb bv sv ints texts l ⟨setV v.stacks tg s, v.heap, v.came⟩ ∧ Frm B [] w w' := by
  have hf : Frm B [] w w' := (Frm.refl B [] w).map hm h.hsb g hB
  exact ⟨⟨hf.blk h.ck (by simp), h.hkb, h.hib, h.hsb, h.ne, h.ins.grown keyI g (by intro e; injection e with e; exact h.ne e), ⟨_, m', (hs.frm hf (by simp)).set (hf.own ho (by simp))⟩, h.heap.keep hf⟩, hf⟩
theorem VAt.put {w w' : World} {st : Int → Option (List Int)} {hp hp' : List HEnt} {cm cm' : Int} (h : VAt w B kb ib sb hb bv sv ints texts l ⟨st, hp, cm⟩) (hf : FrmH B TH w w') (hh : HeapAt w' B hb hp' cm') : VAt w' B kb ib sb hb bv sv ints texts l ⟨st, hp', cm'⟩ := by
  obtain ⟨F, h7, h8⟩ := h.stk
  exact ⟨hf.frm.blk h.ck (by decide), h.hkb, h.hib, h.hsb, h.ne, hf.mk_ h.ins, ⟨F, hf.mk_ h7, h8.frm hf.frm (by decide)⟩, hh⟩
end
def FaultAt (w : World) (B : Nat) (r : Value) : Option (Int × Int) → Prop
  | none => r = .pointer none
  | some (e, o) => ∃ fb, r = .pointer (some ⟨fb, 0, none⟩) ∧ B ≤ fb ∧ Blk w fb 126 #[.int .i64 e, .int .i64 o, .int .i64 0, .int .i64 0]
theorem zero_row8 (w : World) : (zeroValue 22).run Try.prog w = .ok (.slice none 0 0) w := by kernel_rfl
section
variable (w : World) (B kb ib sb hb : Nat) (BA : Option Addr) (len bc : Nat) (sv : Value) (ints texts : Int) (l : List Ins) (v : VS)
set_option maxRecDepth 100000 in
set_option maxHeartbeats 4000000 in
theorem give_any (frm tg : Int) (A : Option Addr) (st : List Int) (c : Nat) (hV : VAt w B kb ib sb hb (.slice BA len bc) sv ints texts l v) (hS : SmallsAt w A st) (hst : st.length ≤ 256) (hlen : len ≤ 65535) (hB : B ≤ w.heap.size)
    (hsl : ∀ y s, v.stacks y = some s → s.length ≤ 256) (hh : v.heap.length ≤ 1000000) (h0 : 0 ≤ v.came) (hc : v.came ≤ 1000000000) :
    Calls Try.prog 108 #[.pointer (some ⟨kb, 0, none⟩), .int .i64 frm, .int .i64 tg, .slice A st.length c] w fun e w' => ∃ r, e = .returned r ∧ FaultAt w' B r (giveV len frm tg st v).2 ∧ VAt w' B kb ib sb hb (.slice BA len bc) sv ints texts l (giveV len frm tg st v).1 ∧ Frm B TH w w' := by
  obtain ⟨R, hR⟩ : ∃ R, R = giveV len frm tg st v := ⟨_, rfl⟩
  rw [← hR]
  unfold giveV at hR
  obtain ⟨n, hn⟩ : ∃ n, st.length = n := ⟨_, rfl⟩
  have k0 := Blk.cell hV.ck 0
  have k5 := Blk.cell hV.ck 5
  have k6 := Blk.cell hV.ck 6
  by_cases c1 : (len : Int) ≤ tg
  · rw [if_pos c1] at hR
    have HR := Lib.hid hR
    have HV := Lib.hid hV
    have d1 : decide ((len : Int) ≤ tg) = true := by simpa using c1
    clear hR hV hS hsl
    go_enter Try.func108, Try.ntmps108
    go_wp2_with fail
    refine (vat_any _ _ _).mono ?_
    rintro e w1 ⟨rfl, rfl⟩
    go_wp2_with fail
    go_ret
    have hb := (Below.refl w.heap.size w).alloc (Nat.le_refl _) (.cells #[.int .i64 49, .int .i64 frm, .int .i64 0, .int .i64 0] 126)
    refine ⟨_, rfl, ?_, ?_, Frm.of_below hb hB⟩
    · rw [HR.out]; exact ⟨_, rfl, hB, Blk.new _ _ _⟩
    · rw [HR.out]; exact HV.out.below hb
  · rw [if_neg c1] at hR
    have d1 : decide ((len : Int) ≤ tg) = false := by simpa using c1
    obtain ⟨F, hF, hSF⟩ := hV.stk
    have hlk := hF.lookup keyI Try.underlying114 zero_row8 tg true
    have hy := hSF tg
    cases hs : v.stacks tg with
    | some s =>
      rw [hs] at hy hR
      obtain ⟨A2, c2, hF2, ho2⟩ := hy
      rw [hF2] at hlk
      have hlk2 : (Instr.lookup 114 (.map (some sb)) (.int .i64 tg) true).run Try.prog w = .ok (.tuple #[.slice A2 s.length c2, .bool true]) w := hlk
      have hs2 := (Row8.own ho2).smalls
      have hsl2 := hsl tg s hs
      have heq := equal8_any A2 A c2 c s st w (by omega) (by omega) (fun k x hk => by obtain ⟨b, off, e1, _, e3⟩ := hs2 k x hk; exact ⟨b, off, e1, e3⟩) (fun k x hk => by obtain ⟨b, off, e1, _, e3⟩ := hS k x hk; exact ⟨b, off, e1, e3⟩)
      obtain ⟨q, hq⟩ : ∃ q, decide (s = st) = q := ⟨_, rfl⟩
      have hR2 : R = if q = true then (v, none) else (v, some (48, tg)) := by
        rw [hR]
        simp only
        rw [← hq]
        simp
      obtain ⟨m, hm⟩ : ∃ m, s.length = m := ⟨_, rfl⟩
      rw [hq] at heq
      rw [hn, hm] at heq
      rw [hm] at hlk2
      have HR := Lib.hid hR2
      have HV := Lib.hid hV
      have HE := Lib.hid heq
      have HLK := Lib.hid hlk2
      clear hR hR2 hV hS hsl hs hF2 ho2 hlk hs2 hsl2 heq hm hq hSF hF hlk2
      have hlk := HLK.out
      rw [hn] at hst ⊢
      go_enter Try.func108, Try.ntmps108
      go_wp2_with fail
      refine HE.out.mono ?_
      rintro e w1 ⟨rfl, nn, rfl⟩
      have hb := below_drewNs (Below.refl w.heap.size w) nn
      obtain ⟨W, hW⟩ : ∃ W, W = w.drewN nn := ⟨_, rfl⟩
      rw [← hW] at hb ⊢
      have HB := Lib.hid hb
      have hz := hb.size
      clear hb hW
      cases q with
      | true =>
        go_wp2_with fail
        go_ret
        refine ⟨_, rfl, ?_, ?_, Frm.of_below HB.out hB⟩
        · rw [HR.out]; rfl
        · rw [HR.out]; exact HV.out.below HB.out
      | false =>
        go_wp2_with fail
        refine (vat_any _ _ _).mono ?_
        rintro e w1 ⟨rfl, rfl⟩
        go_wp2_with fail
        go_ret
        have hb := HB.out.alloc HB.out.size (.cells #[.int .i64 48, .int .i64 tg, .int .i64 0, .int .i64 0] 126)
        refine ⟨_, rfl, ?_, ?_, Frm.of_below hb hB⟩
        · rw [HR.out]; exact ⟨_, rfl, by omega, Blk.new _ _ _⟩
        · rw [HR.out]; exact HV.out.below hb
    | none =>
      rw [hs] at hy hR
      rw [hy] at hlk
      have hlk2 : (Instr.lookup 114 (.map (some sb)) (.int .i64 tg) true).run Try.prog w = .ok (.tuple #[.slice none 0 0, .bool false]) w := hlk
      have hcl := clone8_any A st c w.drew (by omega) hS
      rw [hn] at hcl
      have HR := Lib.hid hR
      have HV := Lib.hid hV
      have HC := Lib.hid hcl
      have HLK := Lib.hid hlk2
      have HF := Lib.hid hF
      have HSF := Lib.hid hSF
      have HN := Lib.hid hn
      clear hR hV hS hsl hs hlk hcl hSF hF hlk2 hy
      have hlk := HLK.out
      rw [hn] at hst ⊢
      have q5 : w.drew.cell? ⟨kb, 5, none⟩ = some (.map (some sb)) := k5
      go_enter Try.func108, Try.ntmps108
      go_wp2_with fail
      go_region_held3 (fun w' => w'.cell? ⟨kb, 5, none⟩ = some (.map (some sb))) (first | with_reducible exact q5 | with_reducible exact c52 | with_reducible exact c54) ((first | (go_at_call 146; go_loud (refine HC.out.mono ?_; rintro e w2 ⟨A2, c2, rfl, ho2, hb2⟩; have hm2 := HF.out.of_block keyI (hb2.block sb (HF.out.lt keyI)); obtain ⟨w4, hr4, m4, g4⟩ := hm2.update keyI Try.underlying114 tg (.slice A2 n c2); have hb3 : Below w.heap.size w w2 := (Below.refl w.heap.size w).drew.trans hb2; have hv2 := HV.out.below hb3; have k2 := hv2.ck; have c52 : w2.cell? ⟨kb, 5, none⟩ = some (.map (some sb)) := Blk.cell k2 5; have k4 := Blk.grown k2 g4 (by intro e; have := MK.blk_ne hm2 k2; injection e with e; exact this e.symm); have c54 : w4.cell? ⟨kb, 5, none⟩ = some (.map (some sb)) := Blk.cell k4 5; have hr5 : (Instr.mapUpdate 114 (.map (some sb)) (.int .i64 tg) (.slice A2 n c2)).run Try.prog w2 = .ok () w4 := hr4; have HO2 := Lib.hid ho2; have HB2 := Lib.hid hb3; have HM2 := Lib.hid hm2; have HM4 := Lib.hid m4; have HG4 := Lib.hid g4; have HV2 := Lib.hid hv2; clear ho2 hb2 hb3 hm2 hr4 m4 g4 hv2 k2 k4))))
      have hlay := HV2.out.lay (tg := tg) (s := st) (A := A2) (c := c2) HM2.out (HSF.out.frm (Frm.of_below (T := []) HB2.out hB) (by simp)) (by rw [HN.out]; exact own_base HO2.out hB) (by rw [HN.out]; exact HM4.out) HG4.out (by have := HB2.out.size; omega)
      obtain ⟨hv4, hf4⟩ := hlay
      have hz4 := hf4.size
      have hz2 := HB2.out.size
      have hb5 := (Below.refl w4.heap.size w4).alloc (Nat.le_refl _) (.cells #[.int .i64 tg] 3)
      have hv5 := hv4.below hb5
      have k6' : w4.cell? ⟨kb, 6, none⟩ = some (.pointer (some ⟨hb, 0, none⟩)) := Blk.cell hv4.ck 6
      have hput := put_any (w4.alloc (.cells #[.int .i64 tg] 3)) tg w4.heap.size hv5.heap ((Blk.new w4 3 #[.int .i64 tg]).cell 0) (by simp) (by simp; omega) hh h0 hc
      have hf5 := ((Frm.of_below (T := TH) HB2.out hB).trans (hf4.more (by simp))).trans (Frm.of_below (T := TH) hb5 (by omega))
      have HV5 := Lib.hid hv5
      have HP := Lib.hid hput
      have HF5 := Lib.hid hf5
      clear hv4 hf4 hb5 hv5 hput hf5 c52 c54 hr5 HO2 HB2 HM2 HM4 HG4 HV2 HC HF HSF
      go_wp2_with fail
      refine HP.out.mono ?_
      rintro e w6 ⟨rfl, hh6, hf6⟩
      have hv6 := HV5.out.put hf6 hh6
      have HV6 := Lib.hid hv6
      have HF6 := Lib.hid (HF5.out.trans hf6.frm)
      clear hh6 hf6 hv6
      go_wp2_with fail
      go_ret
      refine ⟨_, rfl, ?_, ?_, HF6.out⟩
      · rw [HR.out]; rfl
      · rw [HR.out]; exact HV6.out
end
end Go.Proofs.Ytggibiodeecljaa
