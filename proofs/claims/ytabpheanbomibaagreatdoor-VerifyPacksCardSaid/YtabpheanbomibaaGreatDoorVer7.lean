/- verify: the checker's memory; checker.give. verify: rows of kinds cut and joined. -/
import Derived.Test.YtabpheanbomibaaGreatDoorSmall
import Derived.Test.YtabpheanbomibaaGreatDoorVer6
namespace Go.Proofs.YtabpheanbomibaaGreatDoor
open Go.RowKit
set_option linter.unusedVariables false

/-- What the table of shapes holds. -/
def StkF (w : World) (B : Nat) (F : Int → Option Value) (st : Int → Option (List Int)) : Prop :=
  ∀ y, match st y with
    | none => F y = none
    | some s => ∃ A c, F y = some (.slice A s.length c) ∧ w.ownsRow B 82 1 (.slice A s.length c) s.length (s.map (Value.int .i8))
theorem StkF.frm {w w' : World} {B C : Nat} {T : List TypeId} {F : Int → Option Value} {st : Int → Option (List Int)} (h : StkF w B F st) (hf : Frm C T w w') (ht : 82 ∉ T) : StkF w' B F st := fun y => by
  have := h y
  cases hs : st y with
  | none => rw [hs] at this; exact this
  | some s =>
    rw [hs] at this
    obtain ⟨A, c, h1, h2⟩ := this
    exact ⟨A, c, h1, hf.own h2 ht⟩
theorem StkF.set {w : World} {B : Nat} {F : Int → Option Value} {st : Int → Option (List Int)} (h : StkF w B F st) {tg : Int} {s : List Int} {A : Option Addr} {c : Nat} (ho : w.ownsRow B 82 1 (.slice A s.length c) s.length (s.map (Value.int .i8))) :
    StkF w B (upd keyI F tg (some (.slice A s.length c))) (setV st tg s) := fun y => by
  unfold setV
  rw [upd_int]
  by_cases hy : y = tg
  · rw [if_pos hy, if_pos hy]; exact ⟨A, c, rfl, ho⟩
  · rw [if_neg hy, if_neg hy]; exact h y
/-- No two shapes lie in one block. -/
def LoneF (F : Int → Option Value) : Prop := ∀ (x y : Int) (a : Addr) (k c : Nat) (a' : Addr) (k' c' : Nat), F x = some (.slice (some a) k c) → F y = some (.slice (some a') k' c') → a.block = a'.block → x = y
theorem StkF.lt {w : World} {B : Nat} {F : Int → Option Value} {st : Int → Option (List Int)} (h : StkF w B F st) {y : Int} {a : Addr} {k c : Nat} (hF : F y = some (.slice (some a) k c)) : a.block < w.heap.size := by
  have hy := h y
  cases hs : st y with
  | none => rw [hs] at hy; rw [hy] at hF; cases hF
  | some s =>
    rw [hs] at hy
    obtain ⟨A, c2, h1, h2⟩ := hy
    rw [h1] at hF
    injection hF with hF
    injection hF with e1 e2 e3
    subst e1
    exact (h2.lt a.block (by simp [Value.ownBlock])).2
theorem LoneF.set {F : Int → Option Value} (h : LoneF F) {N : Nat} (hlt : ∀ (y : Int) (a : Addr) (k c : Nat), F y = some (.slice (some a) k c) → a.block < N) {tg : Int} {A : Option Addr} {n c0 : Nat} (hA : ∀ a, A = some a → N ≤ a.block) : LoneF (upd keyI F tg (some (.slice A n c0))) := by
  intro x y a k c a' k' c' hx hy hb
  rw [upd_int] at hx hy
  by_cases h1 : x = tg
  · by_cases h2 : y = tg
    · rw [h1, h2]
    · rw [if_pos h1] at hx
      rw [if_neg h2] at hy
      injection hx with hx
      injection hx with e1 _ _
      have q1 := hA a e1
      have q2 := hlt y a' k' c' hy
      omega
  · by_cases h2 : y = tg
    · rw [if_neg h1] at hx
      rw [if_pos h2] at hy
      injection hy with hy
      injection hy with e1 _ _
      have q1 := hA a' e1
      have q2 := hlt x a k c hx
      omega
    · rw [if_neg h1] at hx
      rw [if_neg h2] at hy
      exact h x y a k c a' k' c' hx hy hb
theorem own_from {w : World} {C n c : Nat} {A : Option Addr} {xs : List Value} (h : w.ownsRow C 82 1 (.slice A n c) n xs) : ∀ a, A = some a → C ≤ a.block := by
  rintro a rfl
  exact (h.lt a.block (by simp [Value.ownBlock])).1
/-- The checker, its tables, its heap. -/
structure VAt (w : World) (B kb ib sb hb : Nat) (bv sv : Value) (ints texts : Int) (l : List Ins) (v : VS) : Prop where
  ck : CkAt w kb bv sv ints texts ib sb hb
  hkb : B ≤ kb
  hib : B ≤ ib
  hsb : B ≤ sb
  ne : ib ≠ sb
  ins : MK keyI w ib (insF l)
  stk : ∃ F, MK keyI w sb F ∧ StkF w B F v.stacks ∧ LoneF F
  heap : HeapAt w B hb v.heap v.came
section
variable {B kb ib sb hb : Nat} {bv sv : Value} {ints texts : Int} {l : List Ins} {v : VS}
theorem HeapAt.keep {w w' : World} {h : List HEnt} {came : Int} (k : HeapAt w B hb h came) (hf : Frm B [] w w') : HeapAt w' B hb h came := by
  obtain ⟨v, h1, h2, h3⟩ := k
  exact ⟨v, h1, hf.blk h2 (by simp), hf.own h3 (by simp)⟩
theorem VAt.below {w w' : World} (h : VAt w B kb ib sb hb bv sv ints texts l v) (hb' : Below w.heap.size w w') : VAt w' B kb ib sb hb bv sv ints texts l v := by
  obtain ⟨h1, h2, h3, h4, h5, h6, ⟨F, h7, h8, hlo⟩, h9⟩ := h
  exact ⟨Blk.below h1 hb' (Blk.lt h1), h2, h3, h4, h5, h6.of_block keyI (hb'.block _ (h6.lt keyI)), ⟨F, h7.of_block keyI (hb'.block _ (h7.lt keyI)), h8.frm (Frm.of_below (T := []) hb' (Nat.zero_le _) : Frm 0 [] w w') (by simp), hlo⟩, h9.below hb'⟩
/-- A new shape. -/
theorem VAt.lay {w w' : World} (h : VAt w B kb ib sb hb bv sv ints texts l v) {tg : Int} {s : List Int} {A : Option Addr} {c : Nat} {F : Int → Option Value} (hm : MK keyI w sb F) (hs : StkF w B F v.stacks) (ho : w.ownsRow B 82 1 (.slice A s.length c) s.length (s.map (Value.int .i8)))
    (m' : MK keyI w' sb (upd keyI F tg (some (.slice A s.length c)))) (g : w.grownBy w' (some sb)) (hB : B ≤ w.heap.size) (hlo : LoneF (upd keyI F tg (some (.slice A s.length c)))) :
    VAt w' B kb ib sb hb bv sv ints texts l ⟨setV v.stacks tg s, v.heap, v.came⟩ ∧ Frm B [] w w' := by
  have hf : Frm B [] w w' := (Frm.refl B [] w).map hm h.hsb g hB
  exact ⟨⟨hf.blk h.ck (by simp), h.hkb, h.hib, h.hsb, h.ne, h.ins.grown keyI g (by intro e; injection e with e; exact h.ne e), ⟨_, m', (hs.frm hf (by simp)).set (hf.own ho (by simp)), hlo⟩, h.heap.keep hf⟩, hf⟩
theorem VAt.put {w w' : World} {st : Int → Option (List Int)} {hp hp' : List HEnt} {cm cm' : Int} (h : VAt w B kb ib sb hb bv sv ints texts l ⟨st, hp, cm⟩) (hf : FrmH B TH w w') (hh : HeapAt w' B hb hp' cm') : VAt w' B kb ib sb hb bv sv ints texts l ⟨st, hp', cm'⟩ := by
  obtain ⟨F, h7, h8, hlo⟩ := h.stk
  exact ⟨hf.frm.blk h.ck (by decide), h.hkb, h.hib, h.hsb, h.ne, hf.mk_ h.ins, ⟨F, hf.mk_ h7, h8.frm hf.frm (by decide), hlo⟩, hh⟩
end
def FaultAt (w : World) (B : Nat) (r : Value) : Option (Int × Int) → Prop
  | none => r = .pointer none
  | some (e, o) => ∃ fb, r = .pointer (some ⟨fb, 0, none⟩) ∧ B ≤ fb ∧ Blk w fb 102 #[.int .i64 e, .int .i64 o, .int .i64 0, .int .i64 0]
theorem zero_row8 (w : World) : (zeroValue 23).run Tryz.prog w = .ok (.slice none 0 0) w := by kernel_rfl
section
variable (w : World) (B kb ib sb hb : Nat) (BA : Option Addr) (len bc : Nat) (sv : Value) (ints texts : Int) (l : List Ins) (v : VS)
set_option maxRecDepth 100000 in
set_option maxHeartbeats 4000000 in
theorem give_any (frm tg : Int) (A : Option Addr) (st : List Int) (c : Nat) (hV : VAt w B kb ib sb hb (.slice BA len bc) sv ints texts l v) (hS : SmallsAt w A st) (hst : st.length ≤ 256) (hlen : len ≤ 65535) (hB : B ≤ w.heap.size)
    (hsl : ∀ y s, v.stacks y = some s → s.length ≤ 256) (hh : v.heap.length ≤ 1000000) (h0 : 0 ≤ v.came) (hc : v.came ≤ 1000000000) :
    Calls Tryz.prog 88 #[.pointer (some ⟨kb, 0, none⟩), .int .i64 frm, .int .i64 tg, .slice A st.length c] w fun e w' => ∃ r, e = .returned r ∧ FaultAt w' B r (giveV len frm tg st v).2 ∧ VAt w' B kb ib sb hb (.slice BA len bc) sv ints texts l (giveV len frm tg st v).1 ∧ Frm B TH w w' := by
  obtain ⟨R, hR⟩ : ∃ R, R = giveV len frm tg st v := ⟨_, rfl⟩
  rw [← hR]
  unfold giveV at hR
  obtain ⟨n, hn⟩ : ∃ n, st.length = n := ⟨_, rfl⟩
  have k0 := Blk.cell hV.ck 0
  have k5 := Blk.cell hV.ck 5
  have k6 := Blk.cell hV.ck 6
  by_cases c1 : (len : Int) ≤ tg
  · rw [if_pos c1] at hR
    have HR := Lib.hid hR
    have HV := Lib.hid hV
    have d1 : decide ((len : Int) ≤ tg) = true := by simpa using c1
    clear hR hV hS hsl
    go_enter Tryz.func88, Tryz.ntmps88
    go_wp2_with fail
    refine (vat_any _ _ _).mono ?_
    rintro e w1 ⟨rfl, rfl⟩
    go_wp2_with fail
    go_ret
    have hb := (Below.refl w.heap.size w).alloc (Nat.le_refl _) (.cells #[.int .i64 49, .int .i64 frm, .int .i64 0, .int .i64 0] 102)
    refine ⟨_, rfl, ?_, ?_, Frm.of_below hb hB⟩
    · rw [HR.out]; exact ⟨_, rfl, hB, Blk.new _ _ _⟩
    · rw [HR.out]; exact HV.out.below hb
  · rw [if_neg c1] at hR
    have d1 : decide ((len : Int) ≤ tg) = false := by simpa using c1
    obtain ⟨F, hF, hSF, hLF⟩ := hV.stk
    have hlf0 := fun (A : Option Addr) (n c : Nat) (hA : ∀ a, A = some a → w.heap.size ≤ a.block) => hLF.set (fun y a k c h => hSF.lt h) (tg := tg) (A := A) (n := n) (c0 := c) hA
    have HLF := Lib.hid hlf0
    clear hlf0 hLF
    have hlk := hF.lookup keyI Tryz.underlying87 zero_row8 tg true
    have hy := hSF tg
    cases hs : v.stacks tg with
    | some s =>
      rw [hs] at hy hR
      obtain ⟨A2, c2, hF2, ho2⟩ := hy
      rw [hF2] at hlk
      have hlk2 : (Instr.lookup 87 (.map (some sb)) (.int .i64 tg) true).run Tryz.prog w = .ok (.tuple #[.slice A2 s.length c2, .bool true]) w := hlk
      have hs2 := (Row8.own ho2).smalls
      have hsl2 := hsl tg s hs
      have heq := equal8_any A2 A c2 c s st w (by omega) (by omega) (fun k x hk => by obtain ⟨b, off, e1, _, e3⟩ := hs2 k x hk; exact ⟨b, off, e1, e3⟩) (fun k x hk => by obtain ⟨b, off, e1, _, e3⟩ := hS k x hk; exact ⟨b, off, e1, e3⟩)
      obtain ⟨q, hq⟩ : ∃ q, decide (s = st) = q := ⟨_, rfl⟩
      have hR2 : R = if q = true then (v, none) else (v, some (48, tg)) := by
        rw [hR]
        simp only
        rw [← hq]
        simp
      obtain ⟨m, hm⟩ : ∃ m, s.length = m := ⟨_, rfl⟩
      rw [hq] at heq
      rw [hn, hm] at heq
      rw [hm] at hlk2
      have HR := Lib.hid hR2
      have HV := Lib.hid hV
      have HE := Lib.hid heq
      have HLK := Lib.hid hlk2
      clear hR hR2 hV hS hsl hs hF2 ho2 hlk hs2 hsl2 heq hm hq hSF hF hlk2
      have hlk := HLK.out
      rw [hn] at hst ⊢
      go_enter Tryz.func88, Tryz.ntmps88
      go_wp2_with fail
      refine HE.out.mono ?_
      rintro e w1 ⟨rfl, nn, rfl⟩
      have hb := below_drewNs (Below.refl w.heap.size w) nn
      obtain ⟨W, hW⟩ : ∃ W, W = w.drewN nn := ⟨_, rfl⟩
      rw [← hW] at hb ⊢
      have HB := Lib.hid hb
      have hz := hb.size
      clear hb hW
      cases q with
      | true =>
        go_wp2_with fail
        go_ret
        refine ⟨_, rfl, ?_, ?_, Frm.of_below HB.out hB⟩
        · rw [HR.out]; rfl
        · rw [HR.out]; exact HV.out.below HB.out
      | false =>
        go_wp2_with fail
        refine (vat_any _ _ _).mono ?_
        rintro e w1 ⟨rfl, rfl⟩
        go_wp2_with fail
        go_ret
        have hb := HB.out.alloc HB.out.size (.cells #[.int .i64 48, .int .i64 tg, .int .i64 0, .int .i64 0] 102)
        refine ⟨_, rfl, ?_, ?_, Frm.of_below hb hB⟩
        · rw [HR.out]; exact ⟨_, rfl, by omega, Blk.new _ _ _⟩
        · rw [HR.out]; exact HV.out.below hb
    | none =>
      rw [hs] at hy hR
      rw [hy] at hlk
      have hlk2 : (Instr.lookup 87 (.map (some sb)) (.int .i64 tg) true).run Tryz.prog w = .ok (.tuple #[.slice none 0 0, .bool false]) w := hlk
      have hcl := clone8_any A st c w.drew (by omega) hS
      rw [hn] at hcl
      have HR := Lib.hid hR
      have HV := Lib.hid hV
      have HC := Lib.hid hcl
      have HLK := Lib.hid hlk2
      have HF := Lib.hid hF
      have HSF := Lib.hid hSF
      have HN := Lib.hid hn
      clear hR hV hS hsl hs hlk hcl hSF hF hlk2 hy
      have hlk := HLK.out
      rw [hn] at hst ⊢
      have q5 : w.drew.cell? ⟨kb, 5, none⟩ = some (.map (some sb)) := k5
      go_enter Tryz.func88, Tryz.ntmps88
      go_wp2_with fail
      go_region_held3 (fun w' => w'.cell? ⟨kb, 5, none⟩ = some (.map (some sb))) (first | with_reducible exact q5 | with_reducible exact c52 | with_reducible exact c54) ((first | (go_at_call 111; go_loud (refine HC.out.mono ?_; rintro e w2 ⟨A2, c2, rfl, ho2, hb2⟩; have hm2 := HF.out.of_block keyI (hb2.block sb (HF.out.lt keyI)); obtain ⟨w4, hr4, m4, g4⟩ := hm2.update keyI Tryz.underlying87 tg (.slice A2 n c2); have hb3 : Below w.heap.size w w2 := (Below.refl w.heap.size w).drew.trans hb2; have hv2 := HV.out.below hb3; have k2 := hv2.ck; have c52 : w2.cell? ⟨kb, 5, none⟩ = some (.map (some sb)) := Blk.cell k2 5; have k4 := Blk.grown k2 g4 (by intro e; have := MK.blk_ne hm2 k2; injection e with e; exact this e.symm); have c54 : w4.cell? ⟨kb, 5, none⟩ = some (.map (some sb)) := Blk.cell k4 5; have hr5 : (Instr.mapUpdate 87 (.map (some sb)) (.int .i64 tg) (.slice A2 n c2)).run Tryz.prog w2 = .ok () w4 := hr4; have HO2 := Lib.hid ho2; have HB2 := Lib.hid hb3; have HM2 := Lib.hid hm2; have HM4 := Lib.hid m4; have HG4 := Lib.hid g4; have HV2 := Lib.hid hv2; clear ho2 hb2 hb3 hm2 hr4 m4 g4 hv2 k2 k4))))
      have hlay := HV2.out.lay (tg := tg) (s := st) (A := A2) (c := c2) HM2.out (HSF.out.frm (Frm.of_below (T := []) HB2.out hB) (by simp)) (by rw [HN.out]; exact own_base HO2.out hB) (by rw [HN.out]; exact HM4.out) HG4.out (by have := HB2.out.size; omega) (HLF.out A2 _ c2 (own_from HO2.out))
      obtain ⟨hv4, hf4⟩ := hlay
      have hz4 := hf4.size
      have hz2 := HB2.out.size
      have hb5 := (Below.refl w4.heap.size w4).alloc (Nat.le_refl _) (.cells #[.int .i64 tg] 3)
      have hv5 := hv4.below hb5
      have k6' : w4.cell? ⟨kb, 6, none⟩ = some (.pointer (some ⟨hb, 0, none⟩)) := Blk.cell hv4.ck 6
      have hput := put_any (w4.alloc (.cells #[.int .i64 tg] 3)) tg w4.heap.size hv5.heap ((Blk.new w4 3 #[.int .i64 tg]).cell 0) (by simp) (by simp; omega) hh h0 hc
      have hf5 := ((Frm.of_below (T := TH) HB2.out hB).trans (hf4.more (by simp))).trans (Frm.of_below (T := TH) hb5 (by omega))
      have HV5 := Lib.hid hv5
      have HP := Lib.hid hput
      have HF5 := Lib.hid hf5
      clear hv4 hf4 hb5 hv5 hput hf5 c52 c54 hr5 HO2 HB2 HM2 HM4 HG4 HV2 HC HF HSF
      go_wp2_with fail
      refine HP.out.mono ?_
      rintro e w6 ⟨rfl, hh6, hf6⟩
      have hv6 := HV5.out.put hf6 hh6
      have HV6 := Lib.hid hv6
      have HF6 := Lib.hid (HF5.out.trans hf6.frm)
      clear hh6 hf6 hv6
      go_wp2_with fail
      go_ret
      refine ⟨_, rfl, ?_, ?_, HF6.out⟩
      · rw [HR.out]; rfl
      · rw [HR.out]; exact HV6.out
end
end Go.Proofs.YtabpheanbomibaaGreatDoor
namespace Go.Proofs.YtabpheanbomibaaGreatDoor
open Go.RowKit
set_option linter.unusedVariables false

theorem addr_add (b off j : Nat) : (⟨b, off, none⟩ : Addr).add j = ⟨b, off + j, none⟩ := by by_cases hj0 : j = 0 <;> simp [Addr.add, hj0]
theorem smalls_news {w : World} {b off : Nat} {l : List Int} (h : SmallsAt w (some ⟨b, off, none⟩) l) : ∀ j v, (l.map (Value.int .i8))[j]? = some v → w.cell? ((⟨b, off, none⟩ : Addr).add j) = some v := fun j v hj => by
  rw [List.getElem?_map, Option.map_eq_some_iff] at hj
  obtain ⟨x, hx, rfl⟩ := hj
  obtain ⟨b2, off2, e, _, hc⟩ := h j x hx
  injection e with e
  injection e with e1 e2
  subst e1 e2
  rw [addr_add]
  exact hc
theorem smalls_addr {w : World} {A : Option Addr} {l : List Int} (h : SmallsAt w A l) (hp : 0 < l.length) : ∃ b off, A = some ⟨b, off, none⟩ := by
  obtain ⟨b, off, e, _⟩ := h 0 _ (List.getElem?_eq_getElem hp)
  exact ⟨b, off, e⟩
theorem row8_new (w : World) (l : List Int) (z : List Value) : Row8 (w.alloc (.cells ((l.map (Value.int .i8)).toArray ++ z.toArray) 82)) (some ⟨w.heap.size, 0, none⟩) l := fun k x hk => by
  have hb := Blk.new w 82 ((l.map (Value.int .i8)).toArray ++ z.toArray)
  refine ⟨w.heap.size, 0, _, _, rfl, hb, ?_⟩
  rw [Nat.zero_add, hb.cell, Array.getElem?_append_left (by have := (List.getElem?_eq_some_iff.1 hk).1; simpa using this)]
  simp [hk]
/-- A row without room, and another one behind it. -/
theorem bare_app (w : World) (A G : Option Addr) (bare g : List Int) (cg : Nat) (hb : Row8 w A bare) (hg : SmallsAt w G g) (hl : bare.length ≤ 1000) (hm : g.length ≤ 1000) (hA : A = none ∨ ∃ b off, A = some ⟨b, off, none⟩) :
    ∃ A' c' W, (Builtin.append_ #[23, 23] 23 #[.slice A bare.length bare.length, .slice G g.length cg]).run Tryz.prog w = .ok (.slice A' (bare.length + g.length) c') W ∧ Row8 W A' (bare ++ g) ∧ Below w.heap.size w W := by
  obtain ⟨i0, z0, hi0, hz0, hsz0, hby0, hzc0⟩ := slot_el.info
  by_cases h0 : g = []
  · subst h0
    refine ⟨A, bare.length, w, ?_, by simpa using hb, Below.refl _ _⟩
    exact run_append_zero (P := Tryz.prog) (w := w) 23 23 82 i0 slot_el.und hi0 A bare.length bare.length G cg (Nat.le_refl _)
  · have hp : 0 < g.length := List.length_pos_iff.2 h0
    obtain ⟨gb, go, rfl⟩ := smalls_addr hg hp
    have hn := smalls_news hg
    rcases hA with rfl | ⟨b, off, rfl⟩
    · have hbn : bare = [] := by
        cases bare with
        | nil => rfl
        | cons x r => obtain ⟨b, off, _, _, e, _⟩ := hb 0 x rfl; cases e
      subst hbn
      have hr := run_append_nil (P := Tryz.prog) (w := w) 23 23 82 i0 z0 slot_el.und hi0 hz0 ⟨gb, go, none⟩ g.length cg (g.map (Value.int .i8)) (by rw [hsz0]; simp) hn hp (by omega) (by rw [hby0]; omega)
      refine ⟨_, _, _, by simpa using hr, ?_, (Below.refl _ _).drew.alloc (by show w.heap.size ≤ w.heap.size; omega) _⟩
      have := row8_new w.drew g (Builtin.zeroCells z0.cells (grownCap w g.length 0 82 - g.length)).toList
      simpa using this
    · have ho := smalls_news hb.smalls
      have hr := run_append_grow (P := Tryz.prog) (w := w) 23 23 82 i0 z0 slot_el.und hi0 hz0 ⟨b, off, none⟩ bare.length bare.length (bare.map (Value.int .i8)) (by rw [hsz0]; simp) ho ⟨gb, go, none⟩ g.length cg (g.map (Value.int .i8)) (by rw [hsz0]; simp) hn (by omega) (by omega) (by rw [hby0]; exact growslice_fits (by omega) (by omega))
      refine ⟨_, _, _, hr, ?_, (Below.refl _ _).drew.alloc (by show w.heap.size ≤ w.heap.size; omega) _⟩
      have := row8_new w.drew (bare ++ g) (Builtin.zeroCells z0.cells (grownCap w (bare.length + g.length) bare.length 82 - (bare.length + g.length))).toList
      simpa using this
end Go.Proofs.YtabpheanbomibaaGreatDoor
