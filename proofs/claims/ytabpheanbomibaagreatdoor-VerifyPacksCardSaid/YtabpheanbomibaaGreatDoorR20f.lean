/- tableauref20: fault, look.give. tableauref20: look.at. Written by gen_r20g.py. -/
import Derived.Deep.RegionHeld3
import Derived.Deep.DeepCutAuto
import Derived.Test.YtabpheanbomibaaGreatDoorR20d
import Derived.Test.YtabpheanbomibaaGreatDoorSize16
import Derived.Test.YtabpheanbomibaaGreatDoorVer10
import Derived.Test.YtabpheanbomibaaGreatDoorVer11
import Derived.Test.YtabpheanbomibaaGreatDoorVer6
import Derived.Test.YtabpheanbomibaaGreatDoorVerE
namespace Go.Proofs.YtabpheanbomibaaGreatDoor
open Go.RowKit
set_option linter.unusedVariables false

theorem results_c {P : Program} {fn : Func} {r : Tmp} {ty : TypeId} (h : fn.results = #[.cell r ty]) (tmps : Array Value) (w : World) (g : Nat) (t : TypeId) (cs : Array Value) (fr : Nat × Nat) (d : TypeDesc)
    (hr : tmps.getD r undef = .pointer (some ⟨g, 0, none⟩)) (hg : w.heap[g]? = some (.cells cs t fr))
    (hu : P.underlying ty = some d) (hd : (match d with | .struct _ | .array _ _ => true | _ => false) = true) (hi : (P.info? ty).map (·.size) = some cs.size) :
    (results fn tmps).run P w = .ok (.agg cs) w := by
  have hr' : tmps[r]?.getD undef = .pointer (some ⟨g, 0, none⟩) := by simpa using hr
  simp [results, h, hr', asAddr, run_loadVar_row w g t ty cs fr d hg hu hd hi]
theorem fault20_any (e o : Int) (w : World) : Calls Tryz.prog 37 #[.int .i64 e, .int .i64 o] w fun r w' => r = .returned (.agg #[.int .i64 e, .int .i64 o, .int .i64 0, .int .i64 0]) ∧ Below w.heap.size w w' := by
  go_enter Tryz.func37, Tryz.ntmps37
  go_wp2_with fail
  exact bodyPost_ret (results_c rfl _ _ w.heap.size 32 #[.int .i64 e, .int .i64 o, .int .i64 0, .int .i64 0] (0, 0) _ rfl (Blk.new w _ _) Tryz.underlying32 rfl fault_info) rfl ⟨rfl, (Below.refl _ _).alloc (Nat.le_refl _) _⟩
def put4 (w : World) (rb : Nat) (a b c d : Value) : World := (((w.setCell ⟨rb, 0, none⟩ a).setCell ⟨rb, 1, none⟩ b).setCell ⟨rb, 2, none⟩ c).setCell ⟨rb, 3, none⟩ d
theorem put4_blk {w : World} {B rb : Nat} {a b c d a' b' c' d' : Value} (h : Blk w rb 32 #[a, b, c, d]) (hB : B ≤ rb) : Blk (put4 w rb a' b' c' d') rb 32 #[a', b', c', d'] ∧ Frm B [32] w (put4 w rb a' b' c' d') := by
  have b1 := h.set_ 0 a'
  have b2 := b1.set_ 1 b'
  have b3 := b2.set_ 2 c'
  have b4 := b3.set_ 3 d'
  exact ⟨b4, (((Frm.refl B [32] w).set_ (i := 0) h hB (by simp) a').set_ (i := 1) b1 hB (by simp) b').set_ (i := 2) b2 hB (by simp) c' |>.set_ (i := 3) b3 hB (by simp) d'⟩
theorem put4_new {w wx : World} {B rb : Nat} {T : List TypeId} {a' b' c' d' : Value} (h : Frm B T w wx) (hr : w.heap.size ≤ rb) (hB : B ≤ w.heap.size) : Frm B T w (put4 wx rb a' b' c' d') := (((h.setNew (p := ⟨rb, 0, none⟩) hr hB a').setNew (p := ⟨rb, 1, none⟩) hr hB b').setNew (p := ⟨rb, 2, none⟩) hr hB c').setNew (p := ⟨rb, 3, none⟩) hr hB d'
theorem LkAt.faulted {w w' : World} {B C kb hb tb eb n : Nat} {sv : Value} {st : Int → Option (List Int)} {seen : Int → Bool} (h : LkAt w B kb hb tb eb n sv st seen) (hf : Frm C [32] w w') : LkAt w' B kb hb tb eb n sv st seen := by
  obtain ⟨h1, h2, h3, h4, h5, h6, h7, h8, F, h9, h10⟩ := h
  exact ⟨hf.blk h1 (by decide), h2, h3, h4, h5, h6, hf.blk h7 (by decide), hf.blk h8 (by decide), F, hf.blk h9 (by decide), fun o s ho => hf.own (h10 o s ho) (by decide)⟩
theorem Blk.cells4 {w : World} {g : Nat} {t : TypeId} {a b c d : Value} (h : Blk w g t #[a, b, c, d]) : w.cell? ⟨g, 0, none⟩ = some a ∧ w.cell? ⟨g, 1, none⟩ = some b ∧ w.cell? ⟨g, 2, none⟩ = some c ∧ w.cell? ⟨g, 3, none⟩ = some d ∧ w.frozen? ⟨g, 0, none⟩ = false ∧ w.frozen? ⟨g, 1, none⟩ = false ∧ w.frozen? ⟨g, 2, none⟩ = false ∧ w.frozen? ⟨g, 3, none⟩ = false :=
  ⟨h.cell 0, h.cell 1, h.cell 2, h.cell 3, h.frozen 0, h.frozen 1, h.frozen 2, h.frozen 3⟩
section
variable (w : World) (B kb hb tb eb n : Nat) (sv : Value) (st : Int → Option (List Int)) (seen : Int → Bool)
set_option maxRecDepth 100000 in
set_option maxHeartbeats 8000000 in
theorem give20_any (frm tg : Int) (A : Option Addr) (s : List Int) (c : Nat) (hL : LkAt w B kb hb tb eb n sv st seen) (hS : Row8 w A s) (hs : s.length ≤ 256) (hn : n ≤ 65535) (hB : B ≤ w.heap.size) (hsl : ∀ y s, st y = some s → s.length ≤ 256) (h0 : 0 ≤ tg) :
    Calls Tryz.prog 94 #[.pointer (some ⟨kb, 0, none⟩), .int .i64 frm, .int .i64 tg, .slice A s.length c] w fun e w' => e = .returned (faultV (giveV n frm tg s ⟨st, [], 0⟩).2) ∧ LkAt w' B kb hb tb eb n sv (giveV n frm tg s ⟨st, [], 0⟩).1.stacks seen ∧ Frm B TL w w' := by
  obtain ⟨R, hR⟩ : ∃ R, R = giveV n frm tg s ⟨st, [], 0⟩ := ⟨_, rfl⟩
  rw [← hR]
  unfold giveV at hR
  simp only at hR
  obtain ⟨ns, hns⟩ : ∃ m, s.length = m := ⟨_, rfl⟩
  have hb0 : Below w.heap.size w (w.alloc (.cells #[.int .i64 0, .int .i64 0, .int .i64 0, .int .i64 0] 32)) := (Below.refl _ _).alloc (Nat.le_refl _) _
  have hL0 := hL.below hb0
  have hRB := Blk.new w 32 #[.int .i64 0, .int .i64 0, .int .i64 0, .int .i64 0]
  have hS0 : Row8 (w.alloc (.cells #[.int .i64 0, .int .i64 0, .int .i64 0, .int .i64 0] 32)) A s := hS.frm (Frm.of_below (T := []) hb0 (Nat.zero_le _) : Frm 0 [] w (w.alloc (.cells #[.int .i64 0, .int .i64 0, .int .i64 0, .int .i64 0] 32))) (by simp)
  have hz0 : ((w.alloc (.cells #[.int .i64 0, .int .i64 0, .int .i64 0, .int .i64 0] 32))).heap.size = w.heap.size + 1 := World.size_alloc _ _
  obtain ⟨k0, k1, k2, k3, k4⟩ := hL0.cells
  have HNS := Lib.hid hns
  have HL0 := Lib.hid hL0
  have HB0 := Lib.hid hb0
  by_cases c1 : (n : Int) ≤ tg
  · rw [if_pos c1] at hR
    have d1 : decide ((n : Int) ≤ tg) = true := by simpa using c1
    have HR := Lib.hid hR
    have HRB := Lib.hid hRB
    rw [hns] at hs ⊢
    clear hR hL hS hsl hns hb0 hL0 hRB hS0
    go_enter Tryz.func94, Tryz.ntmps94
    go_wp2_with fail
    refine (fault20_any _ _ _).mono ?_
    rintro e w1 ⟨rfl, hb1⟩
    have hb2 := hb1
    have hrb2 := HRB.out.below hb2 HRB.out.lt
    obtain ⟨y0, y1, y2, y3, u0, u1, u2, u3⟩ := hrb2.cells4
    have HRB2 := Lib.hid hrb2
    have HL2 := Lib.hid (HL0.out.below hb2)
    have HB2 := Lib.hid (HB0.out.trans (hb2.mono HB0.out.size))
    clear hb1 hb2 hrb2
    go_wp2_with fail
    obtain ⟨pb, pf⟩ := put4_blk (a' := .int .i64 49) (b' := .int .i64 frm) (c' := .int .i64 0) (d' := .int .i64 0) HRB2.out hB
    refine bodyPost_ret (results_c rfl _ _ w.heap.size 32 #[.int .i64 49, .int .i64 frm, .int .i64 0, .int .i64 0] (0, 0) _ rfl pb Tryz.underlying32 rfl fault_info) rfl ?_
    refine ⟨by rw [HR.out]; rfl, ?_, put4_new (Frm.of_below HB2.out hB) (Nat.le_refl _) hB⟩
    rw [HR.out]
    exact HL2.out.faulted pf
  rw [if_neg c1] at hR
  have d1 : decide ((n : Int) ≤ tg) = false := by simpa using c1
  obtain ⟨t, rfl⟩ := Int.eq_ofNat_of_zero_le h0
  have ht : t < n := by omega
  obtain ⟨hh, he, A2, c2, hta, ho⟩ := hL0.at_ (o := t) ht
  have htI : (t : Int) < n := by omega
  obtain ⟨so, hst⟩ : ∃ so, st (t : Int) = so := ⟨_, rfl⟩
  have hst2 : st ((t : Nat) : Int) = so := hst
  rw [hst] at hh hta ho
  cases so with
  | none =>
    have hR2 : R.2 = none ∧ R.1.stacks = setV st (t : Int) s := by rw [hR, hst]; exact ⟨rfl, rfl⟩
    simp only [Option.isSome_none] at hh
    have HR := Lib.hid hR2
    have HFW := Lib.hid (Frm.of_below (T := TL) hb0 hB)
    have HBW := Lib.hid (show B ≤ ((w.alloc (.cells #[.int .i64 0, .int .i64 0, .int .i64 0, .int .i64 0] 32))).heap.size by rw [hz0]; omega)
    have hLW := hL0
    have hRW := hS0
    rw [hns] at hs ⊢
    have HST := Lib.hid hst
    clear hR hR2 hL hS hsl hns hta ho he hst hst2 hb0 hL0 hS0
    have HLW := Lib.hid hLW
    obtain ⟨m0, m1, m2, m3, m4⟩ := hLW.cells
    have mh := (hLW.at_ (o := t) ht).1
    have zh := hLW.has.frozen t
    obtain ⟨W1, hW1⟩ : ∃ W1, W1 = World.setCell (w.alloc (.cells #[.int .i64 0, .int .i64 0, .int .i64 0, .int .i64 0] 32)) ⟨hb, t, none⟩ (.bool true) := ⟨_, rfl⟩
    have hf1 : Frm B TL (w.alloc (.cells #[.int .i64 0, .int .i64 0, .int .i64 0, .int .i64 0] 32)) W1 := by rw [hW1]; exact (Frm.refl B TL _).set_ (i := t) hLW.has hLW.hhb (by decide) (.bool true)
    have hrow1 := hRW.frm hf1 (by decide)
    have hcp := cpS_any A s ns c W1.drew HNS.out (by omega) hrow1.smalls
    have q3 : W1.drew.cell? ⟨kb, 3, none⟩ = some (.slice (some ⟨tb, 0, none⟩) n n) := (hf1.blk hLW.ck (by decide)).cell 3
    obtain ⟨F, hF9, _⟩ := hLW.stk
    have b9 : Blk W1 tb 23 (fnA n (stkC F st)) := by rw [hW1]; exact hF9.far (p := ⟨hb, t, none⟩) (hF9.ne_ hLW.has (by decide)) _
    have hz1 : W1.heap.size = (World.heap (w.alloc (.cells #[.int .i64 0, .int .i64 0, .int .i64 0, .int .i64 0] 32))).size := by rw [hW1]; simp [World.setCell]
    have g9 := fnA_get (g := stkC F st) ht
    have HB9 := Lib.hid b9
    have HCK := Lib.hid (hf1.blk hLW.ck (by decide))
    have HCP := Lib.hid hcp
    have HW1 := Lib.hid hW1
    have HG9 := Lib.hid g9
    have HRB := Lib.hid hRB
    clear hLW hRW hf1 hrow1 hcp b9 hF9 g9 hW1 hRB
    go_enter Tryz.func94, Tryz.ntmps94
    go_wp2_with fail
    rw [← HW1.out]
    go_region_held3 (fun w' => w'.cell? ⟨kb, 3, none⟩ = some (.slice (some ⟨tb, 0, none⟩) n n)) (first | with_reducible exact q3 | with_reducible exact c32 | with_reducible exact c33) ((first | (go_at_call 124; go_loud (refine HCP.out.mono ?_; rintro e w2 ⟨v2, rfl, ho2, hb2⟩; obtain ⟨A2, c2, rfl⟩ := own_form ho2; have hb3 : Below W1.heap.size W1 w2 := (Below.refl W1.heap.size W1).drew.trans hb2; have c32 : w2.cell? ⟨kb, 3, none⟩ = some (.slice (some ⟨tb, 0, none⟩) n n) := (HCK.out.below hb3 HCK.out.lt).cell 3; have t9 := HB9.out.below hb3 HB9.out.lt; have y9 : w2.cell? ⟨tb, t, none⟩ = some (stkC F st t) := (t9.cell t).trans HG9.out; have z9 := t9.frozen t; have c33 : (w2.setCell ⟨tb, t, none⟩ (.slice A2 ns c2)).cell? ⟨kb, 3, none⟩ = some (.slice (some ⟨tb, 0, none⟩) n n) := ((HCK.out.below hb3 HCK.out.lt).far (p := ⟨tb, t, none⟩) ((HCK.out.below hb3 HCK.out.lt).ne_ t9 (by decide)) _).cell 3; have HO2 := Lib.hid ho2; have HB2 := Lib.hid hb3; clear ho2 hb2 hb3 t9))))
    have hlay := HLW.out.lay (tg := t) (s := s) (A := A2) (c := c2) HBW.out (by rw [← HW1.out, ← hz1]; exact HB2.out) (by rw [HNS.out]; exact own_base HO2.out (by show B ≤ W1.heap.size; rw [hz1]; exact HBW.out))
    rw [HNS.out] at hlay
    have hrb2 := hlay.2.blk HRB.out (by decide)
    obtain ⟨y0, y1, y2, y3, u0, u1, u2, u3⟩ := hrb2.cells4
    have HRB2 := Lib.hid hrb2
    have HLY := Lib.hid hlay
    clear hlay hrb2
    go_wp2_with fail
    obtain ⟨pb, pf⟩ := put4_blk (a' := .int .i64 0) (b' := .int .i64 0) (c' := .int .i64 0) (d' := .int .i64 0) HRB2.out hB
    refine bodyPost_ret (results_c rfl _ _ w.heap.size 32 #[.int .i64 0, .int .i64 0, .int .i64 0, .int .i64 0] (0, 0) _ rfl pb Tryz.underlying32 rfl fault_info) rfl ?_
    refine ⟨by rw [HR.out.1]; rfl, ?_, put4_new (HFW.out.trans HLY.out.2) (Nat.le_refl _) hB⟩
    rw [HR.out.2]
    exact HLY.out.1.faulted pf
  | some s2 =>
    simp only [Option.isSome_some] at hh
    simp only [Option.getD_some] at hta ho
    have hs2 := hsl _ _ hst
    have hsm2 := (Row8.own ho).smalls
    have heq := eqSmalls_any A2 A c2 c s2 s (w.alloc (.cells #[.int .i64 0, .int .i64 0, .int .i64 0, .int .i64 0] 32)) (by omega) (by omega) (fun k x hk => by obtain ⟨b, off, e1, _, e3⟩ := hsm2 k x hk; exact ⟨b, off, e1, e3⟩) (fun k x hk => by obtain ⟨b, off, e1, _, e3⟩ := hS0.smalls k x hk; exact ⟨b, off, e1, e3⟩)
    obtain ⟨q, hq⟩ : ∃ q, decide (s2 = s) = q := ⟨_, rfl⟩
    have hR2 : R = if q = true then (⟨st, [], 0⟩, none) else (⟨st, [], 0⟩, some (48, (t : Int))) := by
      rw [hR, hst]
      simp only
      rw [← hq]
      simp
    obtain ⟨m, hm⟩ : ∃ m, s2.length = m := ⟨_, rfl⟩
    rw [hq, hns, hm] at heq
    rw [hm] at hta
    have hset : q = true → setV st t s = st := fun h => set_same (by rw [h] at hq; rw [hst, of_decide_eq_true hq])
    have HSET := Lib.hid hset
    have HR2 := Lib.hid hR2
    have HS := Lib.hid hS0
    have HE := Lib.hid heq
    have HRB := Lib.hid hRB
    rw [hns] at hs ⊢
    have HST := Lib.hid hst
    clear hR hR2 hL hS hsl hns ho he hst hst2 hsm2 hq heq hset hm hs2 hb0 hL0 hS0 hRB
    go_enter Tryz.func94, Tryz.ntmps94
    go_wp2_with fail
    refine HE.out.mono ?_
    rintro e w1 ⟨rfl, nn, rfl⟩
    have hbd := below_drewNs (Below.refl ((w.alloc (.cells #[.int .i64 0, .int .i64 0, .int .i64 0, .int .i64 0] 32))).heap.size (w.alloc (.cells #[.int .i64 0, .int .i64 0, .int .i64 0, .int .i64 0] 32))) nn
    have hzd : (World.drewN (w.alloc (.cells #[.int .i64 0, .int .i64 0, .int .i64 0, .int .i64 0] 32)) nn).heap.size = w.heap.size + 1 := hz0
    obtain ⟨W, hW⟩ : ∃ W, W = World.drewN (w.alloc (.cells #[.int .i64 0, .int .i64 0, .int .i64 0, .int .i64 0] 32)) nn := ⟨_, rfl⟩
    rw [← hW] at hbd hzd ⊢
    have HBD := Lib.hid hbd
    clear hbd hW k0 k1 k2 k3 k4 hh hta
    cases q with
    | false =>
      have HR := Lib.hid (show R = (⟨st, [], 0⟩, some (48, (t : Int))) by rw [HR2.out]; rfl)
      clear HR2
      go_wp2_with fail
      refine (fault20_any _ _ _).mono ?_
      rintro e w1 ⟨rfl, hb1⟩
      have hb2 := HBD.out.trans (hb1.mono HBD.out.size)
      have hrb2 := HRB.out.below hb2 HRB.out.lt
      obtain ⟨y0, y1, y2, y3, u0, u1, u2, u3⟩ := hrb2.cells4
      have HRB2 := Lib.hid hrb2
      have HL2 := Lib.hid (HL0.out.below hb2)
      have HB2 := Lib.hid (HB0.out.trans (hb2.mono HB0.out.size))
      clear hb1 hb2 hrb2
      go_wp2_with fail
      obtain ⟨pb, pf⟩ := put4_blk (a' := .int .i64 48) (b' := .int .i64 (t : Int)) (c' := .int .i64 0) (d' := .int .i64 0) HRB2.out hB
      refine bodyPost_ret (results_c rfl _ _ w.heap.size 32 #[.int .i64 48, .int .i64 (t : Int), .int .i64 0, .int .i64 0] (0, 0) _ rfl pb Tryz.underlying32 rfl fault_info) rfl ?_
      refine ⟨by rw [HR.out]; rfl, ?_, put4_new (Frm.of_below HB2.out hB) (Nat.le_refl _) hB⟩
      rw [HR.out]
      exact HL2.out.faulted pf
    | true =>
      have HR := Lib.hid (show R.2 = none ∧ R.1.stacks = setV st t s by rw [HR2.out, HSET.out rfl]; exact ⟨rfl, rfl⟩)
      have HFW := Lib.hid (Frm.of_below (T := TL) (HB0.out.trans (HBD.out.mono HB0.out.size)) hB)
      have HBW := Lib.hid (show B ≤ W.heap.size by omega)
      have hLW := HL0.out.below HBD.out
      have hRW := HS.out.frm (Frm.of_below (T := []) HBD.out (Nat.zero_le _) : Frm 0 [] _ W) (by simp)
      have hRB := HRB.out.below HBD.out HRB.out.lt
      clear HR2 HS HE HRB
      have HLW := Lib.hid hLW
      obtain ⟨m0, m1, m2, m3, m4⟩ := hLW.cells
      have mh := (hLW.at_ (o := t) ht).1
      have zh := hLW.has.frozen t
      obtain ⟨W1, hW1⟩ : ∃ W1, W1 = World.setCell W ⟨hb, t, none⟩ (.bool true) := ⟨_, rfl⟩
      have hf1 : Frm B TL W W1 := by rw [hW1]; exact (Frm.refl B TL _).set_ (i := t) hLW.has hLW.hhb (by decide) (.bool true)
      have hrow1 := hRW.frm hf1 (by decide)
      have hcp := cpS_any A s ns c W1.drew HNS.out (by omega) hrow1.smalls
      have q3 : W1.drew.cell? ⟨kb, 3, none⟩ = some (.slice (some ⟨tb, 0, none⟩) n n) := (hf1.blk hLW.ck (by decide)).cell 3
      obtain ⟨F, hF9, _⟩ := hLW.stk
      have b9 : Blk W1 tb 23 (fnA n (stkC F st)) := by rw [hW1]; exact hF9.far (p := ⟨hb, t, none⟩) (hF9.ne_ hLW.has (by decide)) _
      have hz1 : W1.heap.size = (World.heap W).size := by rw [hW1]; simp [World.setCell]
      have g9 := fnA_get (g := stkC F st) ht
      have HB9 := Lib.hid b9
      have HCK := Lib.hid (hf1.blk hLW.ck (by decide))
      have HCP := Lib.hid hcp
      have HW1 := Lib.hid hW1
      have HG9 := Lib.hid g9
      have HRB := Lib.hid hRB
      clear hLW hRW hf1 hrow1 hcp b9 hF9 g9 hW1 hRB
      skip
      go_wp2_with fail
      rw [← HW1.out]
      go_region_held3 (fun w' => w'.cell? ⟨kb, 3, none⟩ = some (.slice (some ⟨tb, 0, none⟩) n n)) (first | with_reducible exact q3 | with_reducible exact c32 | with_reducible exact c33) ((first | (go_at_call 124; go_loud (refine HCP.out.mono ?_; rintro e w2 ⟨v2, rfl, ho2, hb2⟩; obtain ⟨A2, c2, rfl⟩ := own_form ho2; have hb3 : Below W1.heap.size W1 w2 := (Below.refl W1.heap.size W1).drew.trans hb2; have c32 : w2.cell? ⟨kb, 3, none⟩ = some (.slice (some ⟨tb, 0, none⟩) n n) := (HCK.out.below hb3 HCK.out.lt).cell 3; have t9 := HB9.out.below hb3 HB9.out.lt; have y9 : w2.cell? ⟨tb, t, none⟩ = some (stkC F st t) := (t9.cell t).trans HG9.out; have z9 := t9.frozen t; have c33 : (w2.setCell ⟨tb, t, none⟩ (.slice A2 ns c2)).cell? ⟨kb, 3, none⟩ = some (.slice (some ⟨tb, 0, none⟩) n n) := ((HCK.out.below hb3 HCK.out.lt).far (p := ⟨tb, t, none⟩) ((HCK.out.below hb3 HCK.out.lt).ne_ t9 (by decide)) _).cell 3; have HO2 := Lib.hid ho2; have HB2 := Lib.hid hb3; clear ho2 hb2 hb3 t9))))
      have hlay := HLW.out.lay (tg := t) (s := s) (A := A2) (c := c2) HBW.out (by rw [← HW1.out, ← hz1]; exact HB2.out) (by rw [HNS.out]; exact own_base HO2.out (by show B ≤ W1.heap.size; rw [hz1]; exact HBW.out))
      rw [HNS.out] at hlay
      have hrb2 := hlay.2.blk HRB.out (by decide)
      obtain ⟨y0, y1, y2, y3, u0, u1, u2, u3⟩ := hrb2.cells4
      have HRB2 := Lib.hid hrb2
      have HLY := Lib.hid hlay
      clear hlay hrb2
      go_wp2_with fail
      obtain ⟨pb, pf⟩ := put4_blk (a' := .int .i64 0) (b' := .int .i64 0) (c' := .int .i64 0) (d' := .int .i64 0) HRB2.out hB
      refine bodyPost_ret (results_c rfl _ _ w.heap.size 32 #[.int .i64 0, .int .i64 0, .int .i64 0, .int .i64 0] (0, 0) _ rfl pb Tryz.underlying32 rfl fault_info) rfl ?_
      refine ⟨by rw [HR.out.1]; rfl, ?_, put4_new (HFW.out.trans HLY.out.2) (Nat.le_refl _) hB⟩
      rw [HR.out.2]
      exact HLY.out.1.faulted pf
end
end Go.Proofs.YtabpheanbomibaaGreatDoor
namespace Go.Proofs.YtabpheanbomibaaGreatDoor
open Go.RowKit
set_option linter.unusedVariables false

/-- The end of a row against another one. -/
theorem tail_eqS {W : World} {B cs k n1 c1 : Nat} {As A1 A3 : Option Addr} {c3 : Nat} {s t1 : List Int} {q : Bool} (ho : W.ownsRow B 82 1 (.slice As (k + n1) cs) (k + n1) (s.map (Value.int .i8))) (h1 : SmallsAt W A1 t1) (hs : s.length = k + n1) (ht : t1.length = n1) (hl : k + n1 ≤ 1000) (hcs : k + n1 ≤ cs)
    (h3 : A3 = if cs = k then As else As.map (fun x => x.add k)) (hq : decide (s.drop k = t1) = q) :
    Calls Tryz.prog 13 #[.slice A3 n1 c3, .slice A1 n1 c1] W fun e w' => e = .returned (.bool q) ∧ ∃ n, w' = W.drewN n := by
  have hsd : (s.drop k).length = n1 := by rw [List.length_drop]; omega
  have he := eqSmalls_any A3 A1 c3 c1 (s.drop k) t1 W (by omega) (by omega) (fun j x hj => by
    have hj1 := (List.getElem?_eq_some_iff.1 hj).1
    have hsm := (Row8.own ho).smalls
    obtain ⟨b, off, e⟩ := smalls_addr hsm (by omega)
    subst e
    obtain ⟨b2, off2, e, _, e3⟩ := hsm.drop k j x hj
    injection e with e
    injection e with e1 e2
    subst e1 e2
    refine ⟨b, off + k, ?_, e3⟩
    rw [h3, if_neg (by omega)]
    simp [addr_add]) (fun j x hj => by obtain ⟨b, off, e1, _, e3⟩ := h1 j x hj; exact ⟨b, off, e1, e3⟩)
  rw [hsd, ht, hq] at he
  exact he
/-- A row of small numbers behind one of one's own. -/
theorem app8 (W : World) (base : Nat) (v : Value) (n : Nat) (xs : List Int) (ho : W.ownsRow base 82 1 v n (xs.map (Value.int .i8))) (A : Option Addr) (l : List Int) (c : Nat) (hS : SmallsAt W A l) (hl : l.length ≤ 1000) (hn : n ≤ 1000) (hb : base ≤ W.heap.size) :
    ∃ A' c' W', (Builtin.append_ #[23, 23] 23 #[v, .slice A l.length c]).run Tryz.prog W = .ok (.slice A' (n + l.length) c') W' ∧ W'.ownsRow base 82 1 (.slice A' (n + l.length) c') (n + l.length) ((xs ++ l).map (Value.int .i8)) ∧ W.grownBy W' v.ownBlock := by
  obtain ⟨v', w', hr, ho', hg⟩ := run_append_any (P := Tryz.prog) (w := W) base 23 23 82 slot_el v n (xs.map (Value.int .i8)) ho A l.length c (l.map (Value.int .i8)) (by simp) (fun h0 => by
    obtain ⟨b, off, e⟩ := smalls_addr hS (by omega)
    subst e
    exact ⟨⟨b, off, none⟩, rfl, smalls_news hS⟩) (by intro u hu; obtain ⟨y, _, rfl⟩ := List.mem_map.1 hu; rfl) (by unfold maxLen; omega) (by omega) hb
  obtain ⟨A', c', rfl⟩ := own_form ho'
  exact ⟨A', c', w', hr, by rw [List.map_append]; exact ho', hg⟩
theorem icells {W7 wx : World} {B ws : Nat} {a xo xA xB xC : Int} (h : Blk W7 ws 100 #[.int .i64 a, .int .u8 xo, .int .i64 xA, .int .i64 xB, .int .i64 xC]) (hf : Frm B TL W7 wx) : wx.cell? ⟨ws, 0, none⟩ = some (.int .i64 a) ∧ wx.cell? ⟨ws, 1, none⟩ = some (.int .u8 xo) := ⟨(hf.blk h (by decide)).cell 0, (hf.blk h (by decide)).cell 1⟩
/-- What give has answered lies in a cell of its own. -/
def FAt (W7 wx : World) (B kb hb tb eb n : Nat) (sv : Value) (st1 : Int → Option (List Int)) (seen : Int → Bool) (e0 o0 : Int) (v : Value) : Prop :=
  ∃ fb, v = .pointer (some ⟨fb, 0, none⟩) ∧ Blk wx fb 32 #[.int .i64 e0, .int .i64 o0, .int .i64 0, .int .i64 0] ∧ LkAt wx B kb hb tb eb n sv st1 seen ∧ Frm B TL W7 wx
theorem FAt.melt {W7 w8 : World} {B kb hb tb eb n : Nat} {sv : Value} {st1 : Int → Option (List Int)} {seen : Int → Bool} {e0 o0 : Int} (hB : B ≤ W7.heap.size) (hL : LkAt w8 B kb hb tb eb n sv st1 seen) (hf : Frm B TL W7 w8) :
    FAt W7 (w8.alloc (.cells #[.int .i64 e0, .int .i64 o0, .int .i64 0, .int .i64 0] 32)) B kb hb tb eb n sv st1 seen e0 o0 (.pointer (some ⟨w8.heap.size, 0, none⟩)) :=
  ⟨_, rfl, Blk.new _ _ _, hL.below ((Below.refl _ _).alloc (Nat.le_refl _) _), hf.alloc (by have := hf.size; omega) _⟩
theorem FAt.store {W7 w8 : World} {B kb hb tb eb n fb : Nat} {sv : Value} {st1 : Int → Option (List Int)} {seen : Int → Bool} {e0 o0 : Int} {a b c d : Value} (hB : B ≤ W7.heap.size) (hL : LkAt w8 B kb hb tb eb n sv st1 seen) (hf : Frm B TL W7 w8) (hb8 : Blk w8 fb 32 #[a, b, c, d]) (hfb : W7.heap.size ≤ fb) :
    FAt W7 (put4 w8 fb (.int .i64 e0) (.int .i64 o0) (.int .i64 0) (.int .i64 0)) B kb hb tb eb n sv st1 seen e0 o0 (.pointer (some ⟨fb, 0, none⟩)) := by
  obtain ⟨pb, pf⟩ := put4_blk (a' := .int .i64 e0) (b' := .int .i64 o0) (c' := .int .i64 0) (d' := .int .i64 0) hb8 (Nat.le_refl fb)
  exact ⟨fb, rfl, pb, hL.faulted pf, put4_new hf hfb hB⟩
/-- What is laid, the stack whole. -/
def fullV (slots : List Int) (x : Ins) (st : Int → Option (List Int)) : List Int := ((st x.at_).getD []).take (((st x.at_).getD []).length - (takesV slots x).1.length) ++ (takesV slots x).2
section
variable (w : World) (B kb hb tb eb n : Nat) (SA : Option Addr) (slots : List Int) (sc : Nat) (ints texts : Int) (st : Int → Option (List Int)) (seen : Int → Bool)
/-- bare, and full: three times append. -/
theorem bare_full (W : World) (As A2 : Option Addr) (k n2 cs c2 : Nat) (s t2 : List Int) (hS : SmallsAt W As (s.take k)) (hk : (s.take k).length = k) (hk1 : k ≤ 256) (h2 : SmallsAt W A2 t2) (hn2 : t2.length = n2) (hn21 : n2 ≤ 256) :
    ∃ A5 c5 W5 A6 c6 W6 A7 c7 W7, (Builtin.append_ #[23, 23] 23 #[.slice none 0 0, .slice As k cs]).run Tryz.prog W = .ok (.slice A5 k c5) W5 ∧
      (Builtin.append_ #[23, 23] 23 #[.slice none 0 0, .slice A5 k c5]).run Tryz.prog W5 = .ok (.slice A6 k c6) W6 ∧
      (Builtin.append_ #[23, 23] 23 #[.slice A6 k c6, .slice A2 n2 c2]).run Tryz.prog W6 = .ok (.slice A7 (k + n2) c7) W7 ∧
      Row8 W7 A5 (s.take k) ∧ Row8 W7 A7 (s.take k ++ t2) ∧ Below W.heap.size W W7 := by
  obtain ⟨A5, c5, W5, r5, o5, g5⟩ := app8 W W.heap.size (.slice none 0 0) 0 [] (World.ownsRow_nil _ _ _ _) As (s.take k) cs hS (by omega) (by omega) (Nat.le_refl _)
  have b5 : Below W.heap.size W W5 := (Below.refl _ _).grown g5 (Nat.le_refl _) (fun q e => by simp [Value.ownBlock] at e)
  simp only [Nat.zero_add, List.nil_append, hk] at r5 o5
  obtain ⟨A6, c6, W6, r6, o6, g6⟩ := app8 W5 W5.heap.size (.slice none 0 0) 0 [] (World.ownsRow_nil _ _ _ _) A5 (s.take k) c5 (Row8.own o5).smalls (by omega) (by omega) (Nat.le_refl _)
  have b6 : Below W5.heap.size W5 W6 := (Below.refl _ _).grown g6 (Nat.le_refl _) (fun q e => by simp [Value.ownBlock] at e)
  simp only [Nat.zero_add, List.nil_append, hk] at r6 o6
  obtain ⟨A7, c7, W7, r7, o7, g7⟩ := app8 W6 W5.heap.size (.slice A6 k c6) k (s.take k) o6 A2 t2 c2 ((h2.below b5).below (b6.mono b5.size |>.mono (Nat.le_refl _) |> fun h => by exact b6)) (by omega) (by omega) b6.size
  simp only [hn2] at r7 o7
  have b7 : Below W5.heap.size W5 W7 := b6.grown g7 b6.size (fun q e => (o6.lt q e).1)
  exact ⟨A5, c5, W5, A6, c6, W6, A7, c7, W7, r5, r6, r7, (Row8.own o5).frm (Frm.of_below (T := []) b7 (Nat.zero_le _) : Frm 0 [] W5 W7) (by simp), Row8.own o7, b5.trans (b7.mono b5.size)⟩
end
end Go.Proofs.YtabpheanbomibaaGreatDoor
