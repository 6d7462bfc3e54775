/- verify: checker.look. -/
import Derived.Test.YtabpheanbomibaaGreatDoorVer7
namespace Go.Proofs.YtabpheanbomibaaGreatDoor
open Go.RowKit
set_option linter.unusedVariables false

theorem fields_len (n : Nat) : (fieldsM.getD n sign0).args.length ≤ 4 := by
  by_cases h : n < 13
  · have : ∀ n, n < 13 → (fieldsM.getD n sign0).args.length ≤ 4 := by decide
    exact this n h
  · rw [List.getD_eq_getElem?_getD, List.getElem?_eq_none (by show fieldsM.length ≤ n; rw [show fieldsM.length = 13 from rfl]; omega)]
    decide
theorem effects_len (n : Nat) : (effectsM.getD n sign0).args.length ≤ 4 := by
  by_cases h : n < 9
  · have : ∀ n, n < 9 → (effectsM.getD n sign0).args.length ≤ 4 := by decide
    exact this n h
  · rw [List.getD_eq_getElem?_getD, List.getElem?_eq_none (by show effectsM.length ≤ n; rw [show effectsM.length = 9 from rfl]; omega)]
    decide
theorem takesV_len (slots : List Int) (x : Ins) : (takesV slots x).1.length ≤ 4 ∧ (takesV slots x).2.length ≤ 4 := by
  have h1 := fields_len x.a.toNat
  have h2 := effects_len x.a.toNat
  unfold sign0 at h1 h2
  have hp : ∀ (c : Prop) [Decidable c] (p q : List Int × List Int), (p.1.length ≤ 4 ∧ p.2.length ≤ 4) → (q.1.length ≤ 4 ∧ q.2.length ≤ 4) → ((if c then p else q).1.length ≤ 4 ∧ (if c then p else q).2.length ≤ 4) := fun c _ p q a b => by
    by_cases h : c
    · rw [if_pos h]; exact a
    · rw [if_neg h]; exact b
  unfold takesV
  repeat' refine hp _ _ _ ?_ ?_
  all_goals first | exact ⟨h1, (by simp : ([_] : List Int).length ≤ 4)⟩ | exact ⟨h2, (by simp : ([] : List Int).length ≤ 4)⟩ | exact ⟨h1, by decide⟩ | exact ⟨h2, by decide⟩ | exact ⟨by decide, by decide⟩ | exact ⟨by simp, by simp⟩
theorem SmallsAt.drop {w : World} {b off : Nat} {l : List Int} (h : SmallsAt w (some ⟨b, off, none⟩) l) (k : Nat) : SmallsAt w (some ⟨b, off + k, none⟩) (l.drop k) := fun j x hj => by
  rw [List.getElem?_drop] at hj
  obtain ⟨b2, off2, e, h1, h2⟩ := h (k + j) x hj
  injection e with e
  injection e with e1 e2
  subst e1 e2
  exact ⟨b, off + k, rfl, h1, by rw [Nat.add_assoc]; exact h2⟩
theorem Row8.take {w : World} {A : Option Addr} {l : List Int} (h : Row8 w A l) (k : Nat) : Row8 w A (l.take k) := fun j x hj => by
  rw [List.getElem?_take] at hj
  split at hj
  · exact h j x hj
  · cases hj
theorem give_keeps (len : Nat) (frm tg : Int) (st : List Int) (v : VS) (hv : ∀ y s, v.stacks y = some s → s.length ≤ 256) (hs : st.length ≤ 256) :
    (∀ y s, (giveV len frm tg st v).1.stacks y = some s → s.length ≤ 256) ∧ (giveV len frm tg st v).1.heap.length ≤ v.heap.length + 1 ∧ v.came ≤ (giveV len frm tg st v).1.came ∧ (giveV len frm tg st v).1.came ≤ v.came + 1 := by
  unfold giveV
  by_cases h1 : (len : Int) ≤ tg
  · rw [if_pos h1]; exact ⟨hv, by simp, by simp, by simp; omega⟩
  · rw [if_neg h1]
    cases hq : v.stacks tg with
    | some s =>
      simp only
      by_cases h2 : s = st
      · rw [if_pos h2]; exact ⟨hv, by simp, by simp, by simp; omega⟩
      · rw [if_neg h2]; exact ⟨hv, by simp, by simp, by simp; omega⟩
    | none =>
      refine ⟨fun y s hy => ?_, by simp [putH_len], by simp; omega, by simp⟩
      simp only [setV] at hy
      split at hy
      · injection hy with hy; subst hy; exact hs
      · exact hv y s hy
/-- The end of a row against another one. -/
theorem tail_eq {W : World} {B cs k n1 c1 : Nat} {As A1 A3 : Option Addr} {c3 : Nat} {s t1 : List Int} {q : Bool} (ho : W.ownsRow B 82 1 (.slice As (k + n1) cs) (k + n1) (s.map (Value.int .i8))) (h1 : SmallsAt W A1 t1) (hs : s.length = k + n1) (ht : t1.length = n1) (hl : k + n1 ≤ 1000) (hcs : k + n1 ≤ cs)
    (h3 : A3 = if cs = k then As else As.map (fun x => x.add k)) (hq : decide (s.drop k = t1) = q) :
    Calls Tryz.prog 87 #[.slice A3 n1 c3, .slice A1 n1 c1] W fun e w' => e = .returned (.bool q) ∧ ∃ n, w' = W.drewN n := by
  have hsd : (s.drop k).length = n1 := by rw [List.length_drop]; omega
  have he := equal8_any A3 A1 c3 c1 (s.drop k) t1 W (by omega) (by omega) (fun j x hj => by
    have hj1 := (List.getElem?_eq_some_iff.1 hj).1
    have hsm := (Row8.own ho).smalls
    obtain ⟨b, off, e⟩ := smalls_addr hsm (by omega)
    subst e
    obtain ⟨b2, off2, e, _, e3⟩ := hsm.drop k j x hj
    injection e with e
    injection e with e1 e2
    subst e1 e2
    refine ⟨b, off + k, ?_, e3⟩
    rw [h3, if_neg (by omega)]
    simp [addr_add]) (fun j x hj => by obtain ⟨b, off, e1, _, e3⟩ := h1 j x hj; exact ⟨b, off, e1, e3⟩)
  rw [hsd, ht, hq] at he
  exact he
section
variable (w : World) (B kb ib sb hb : Nat) (BA SA : Option Addr) (len bc sc : Nat) (slots : List Int) (ints texts : Int) (l : List Ins) (v : VS)
set_option maxRecDepth 100000 in
set_option maxHeartbeats 8000000 in
theorem look_any (x : Ins) (hV : VAt w B kb ib sb hb (.slice BA len bc) (.slice SA slots.length sc) ints texts l v) (hS : ∀ wx, Below w.heap.size w wx → SmallsAt wx SA slots) (hs : slots.length ≤ 1000) (hx0 : 0 ≤ x.a) (hxn : numbersV slots ints texts x = 0) (hlen : len ≤ 65535) (hB : B ≤ w.heap.size)
    (hat : 0 ≤ x.at_) (hat2 : x.at_ ≤ 100000)
    (hsl : ∀ y s, v.stacks y = some s → s.length ≤ 256) (hh : v.heap.length ≤ 100000) (h0 : 0 ≤ v.came) (hc : v.came ≤ 100000000) :
    Calls Tryz.prog 33 #[.pointer (some ⟨kb, 0, none⟩), .agg x.cells] w fun e w' => ∃ r, e = .returned r ∧ FaultAt w' B r (lookV len slots x v).2 ∧ VAt w' B kb ib sb hb (.slice BA len bc) (.slice SA slots.length sc) ints texts l (lookV len slots x v).1 ∧ Frm B TH w w' := by
  obtain ⟨R, hR⟩ : ∃ R, R = lookV len slots x v := ⟨_, rfl⟩
  rw [← hR]
  unfold lookV at hR
  simp only at hR
  obtain ⟨htl1, htl2⟩ := takesV_len slots x
  have htk := fun wx hwx hkx => takes_any wx kb ib sb hb (.slice BA len bc) SA slots sc ints texts x hkx (hS wx hwx) hs hx0 hxn
  obtain ⟨t1, t2, ht⟩ : ∃ t1 t2, takesV slots x = (t1, t2) := ⟨_, _, rfl⟩
  rw [ht] at htl1 htl2
  simp only [ht] at hR htk
  simp only at htl1 htl2
  obtain ⟨s, hsE⟩ : ∃ s, (v.stacks x.at_).getD [] = s := ⟨_, rfl⟩
  rw [hsE] at hR
  have hs256 : s.length ≤ 256 := by
    rw [← hsE]
    cases hq : v.stacks x.at_ with
    | none => simp
    | some s => simpa using hsl _ _ hq
  obtain ⟨xa, xo, xA, xB, xC⟩ := x
  simp only [Ins.cells] at htk hR hat hat2 hsE ⊢
  obtain ⟨I, hI⟩ : ∃ I, I = Obj.cells #[.int .i64 xa, .int .u8 xo, .int .i64 xA, .int .i64 xB, .int .i64 xC] 100 := ⟨_, rfl⟩
  have hbI : Below w.heap.size w (w.alloc I) := (Below.refl _ _).alloc (Nat.le_refl _) _
  have hV1 := hV.below hbI
  have hb1 : Blk (w.alloc I) w.heap.size 100 #[.int .i64 xa, .int .u8 xo, .int .i64 xA, .int .i64 xB, .int .i64 xC] := by rw [hI]; exact Blk.new _ _ _
  have htk1 := htk _ hbI hV1.ck
  obtain ⟨W1, hW1⟩ : ∃ W1, W1 = w.alloc I := ⟨_, rfl⟩
  rw [← hW1] at hbI hV1 hb1 htk1
  rw [hI] at hW1
  have HV := Lib.hid hV
  have HV1 := Lib.hid hV1
  have HB1 := Lib.hid hb1
  have HBI := Lib.hid hbI
  have HT := Lib.hid htk1
  have HR := Lib.hid hR
  have HSE := Lib.hid hsE
  have HSL := Lib.hid hsl
  have HW1 := Lib.hid hW1
  clear hV hV1 hb1 hbI htk1 htk hR hsE hI hW1 ht hxn hS hsl
  go_enter Tryz.func33, Tryz.ntmps33
  go_wp2_with fail
  rw [← HW1.out]
  refine HT.out.mono ?_
  rintro e w2 ⟨A1, c1, A2, c2, rfl, hc1, hc2, hs1, hs2, hb2⟩
  simp only at hs1 hs2 hc1 hc2
  have hb2' := HBI.out.trans (hb2.mono HBI.out.size)
  have hV2 := HV1.out.below hb2
  have hbk2 := HB1.out.below hb2 HB1.out.lt
  have k5 : w2.cell? ⟨kb, 5, none⟩ = some (.map (some sb)) := Blk.cell hV2.ck 5
  have i0 : w2.cell? ⟨w.heap.size, 0, none⟩ = some (.int .i64 xa) := hbk2.cell 0
  have i1 : w2.cell? ⟨w.heap.size, 1, none⟩ = some (.int .u8 xo) := hbk2.cell 1
  obtain ⟨F, hF, hSF, _⟩ := hV2.stk
  have hlk := (hF.drew keyI).lookup keyI Tryz.underlying87 zero_row8 xa false
  have hso : ∃ As cs, (F xa).getD (.slice none 0 0) = .slice As s.length cs ∧ w2.ownsRow B 82 1 (.slice As s.length cs) s.length (s.map (Value.int .i8)) := by
    have hy := hSF xa
    have hse := HSE.out
    cases hq : v.stacks xa with
    | none => rw [hq] at hy hse; simp at hse; subst hse; rw [hy]; exact ⟨none, 0, rfl, World.ownsRow_nil _ _ _ _⟩
    | some s' => rw [hq] at hy hse; simp at hse; subst hse; obtain ⟨A, c, e1, e2⟩ := hy; rw [e1]; exact ⟨A, c, rfl, e2⟩
  obtain ⟨As, cs, hsv, hso⟩ := hso
  have hlk2 : (Instr.lookup 87 (.map (some sb)) (.int .i64 xa) false).run Tryz.prog w2.drew = .ok (.slice As s.length cs) w2.drew := by
    have h9 := hlk
    rw [hsv] at h9
    exact h9
  obtain ⟨ns, hns⟩ : ∃ n, s.length = n := ⟨_, rfl⟩
  obtain ⟨n1, hn1⟩ : ∃ n, t1.length = n := ⟨_, rfl⟩
  obtain ⟨n2, hn2⟩ : ∃ n, t2.length = n := ⟨_, rfl⟩
  rw [hns] at hlk2 hso hs256
  rw [hn1] at hc1 htl1 ⊢
  rw [hn2] at hc2 htl2 ⊢
  have HV2 := Lib.hid hV2
  have HB2 := Lib.hid hb2'
  have HBK := Lib.hid hbk2
  have HS1 := Lib.hid hs1
  have HS2 := Lib.hid hs2
  have HSO := Lib.hid hso
  have HNS := Lib.hid hns
  have HN1 := Lib.hid hn1
  have HN2 := Lib.hid hn2
  clear hV2 hb2 hb2' hbk2 hs1 hs2 hso hns hn1 hn2 hlk hsv hSF hF HT HV1 HB1 HBI HW1
  have k5d : w2.drew.cell? ⟨kb, 5, none⟩ = some (.map (some sb)) := k5
  have i0d : w2.drew.cell? ⟨w.heap.size, 0, none⟩ = some (.int .i64 xa) := i0
  go_wp2_with fail
  go_region_held3 (fun w' => w'.cell? ⟨kb, 5, none⟩ = some (.map (some sb)) ∧ w'.cell? ⟨w.heap.size, 0, none⟩ = some (.int .i64 xa) ∧ (Instr.lookup 87 (.map (some sb)) (.int .i64 xa) false).run Tryz.prog w' = .ok (.slice As ns cs) w') (first | with_reducible exact ⟨k5d, i0d, hlk2⟩) ((first | fail))
  have hcs : ns ≤ cs := by
    rcases HSO.out.2 with ⟨e1, e2⟩ | ⟨g, cap, cur, e1, _, _, e2, _⟩
    · omega
    · injection e1 with _ _ e3
      omega
  have HB3 := Lib.hid (HB2.out.drew)
  have HV3 := Lib.hid (HV2.out.below (Below.refl w2.heap.size w2).drew)
  have HBK3 := Lib.hid HBK.out.drew
  have HSO3 := Lib.hid HSO.out.drew
  have s1d : SmallsAt w2.drew A1 t1 := HS1.out
  have s2d : SmallsAt w2.drew A2 t2 := HS2.out
  have i1d : w2.drew.cell? ⟨w.heap.size, 1, none⟩ = some (.int .u8 xo) := i1
  obtain ⟨W, hW⟩ : ∃ W, W = w2.drew := ⟨_, rfl⟩
  rw [← hW] at HB3 HV3 HBK3 HSO3 s1d s2d i0d i1d k5d ⊢
  have HS1d := Lib.hid s1d
  have HS2d := Lib.hid s2d
  clear hW hlk2 i0 i1 k5 HV2 HB2 HBK HSO HS1 HS2 s1d s2d
  by_cases c0 : ns < n1
  · have d0 : decide ((ns : Int) < n1) = true := by simp; omega
    have hr : R = (v, some (45, xa)) := by rw [HR.out, if_pos (by rw [HNS.out, HN1.out]; exact c0)]
    have HR2 := Lib.hid hr
    clear hr HR
    go_wp2_with fail
    refine (vat_any _ _ _).mono ?_
    rintro e w1 ⟨rfl, rfl⟩
    go_wp2_with fail
    go_ret
    have hb := HB3.out.alloc HB3.out.size (.cells #[.int .i64 45, .int .i64 xa, .int .i64 0, .int .i64 0] 102)
    refine ⟨_, rfl, ?_, ?_, Frm.of_below hb hB⟩
    · rw [HR2.out]; exact ⟨_, rfl, by have := HB3.out.size; omega, Blk.new _ _ _⟩
    · rw [HR2.out]; exact HV3.out.below ((Below.refl _ _).alloc (Nat.le_refl _) _)
  · obtain ⟨k, rfl⟩ : ∃ k, ns = k + n1 := ⟨ns - n1, by omega⟩
    have d0 : decide (((k + n1 : Nat) : Int) < n1) = false := by simp; omega
    have hr := HR.out
    rw [if_neg (by rw [HNS.out, HN1.out]; omega), HNS.out, HN1.out, Nat.add_sub_cancel] at hr
    have HR2 := Lib.hid hr
    have hsd : (s.drop k).length = n1 := by rw [List.length_drop, HNS.out]; omega
    have hst : (s.take k).length = k := by rw [List.length_take, HNS.out]; omega
    have hAs : As = none ∧ k + n1 = 0 ∨ ∃ g, As = some ⟨g, 0, none⟩ := by
      rcases HSO3.out.2 with ⟨e1, e2⟩ | ⟨g, cap, cur, e1, _⟩
      · injection e1 with e1; exact .inl ⟨e1, e2⟩
      · injection e1 with e1; exact .inr ⟨g, e1⟩
    have HSD := Lib.hid hsd
    have HST := Lib.hid hst
    have HAS := Lib.hid hAs
    clear hr hsd hst hAs HR
    obtain ⟨q, hq⟩ : ∃ q, decide (s.drop k = t1) = q := ⟨_, rfl⟩
    have HEQ := Lib.hid (fun (A3 : Option Addr) (c3 : Nat) (h3 : A3 = if cs = k then As else As.map (fun x => x.add k)) => tail_eq (c3 := c3) (c1 := c1) HSO3.out HS1d.out HNS.out HN1.out (by omega) hcs h3 hq)
    have hq2 : s.drop k ≠ t1 ↔ q = false := by rw [← hq]; simp
    have HQ := Lib.hid hq2
    have HRW := Lib.hid ((Row8.own HSO3.out).take k)
    clear hq hq2
    by_cases hck : cs = k
    all_goals
      go_wp2_with fail
      refine (HEQ.out _ _ (by simp [hck])).mono ?_
      rintro e w4 ⟨rfl, nn, rfl⟩
      have hb4 := below_drewNs (Below.refl W.heap.size W) nn
      obtain ⟨W4, hW4⟩ : ∃ W4, W4 = W.drewN nn := ⟨_, rfl⟩
      rw [← hW4] at hb4 ⊢
      have HV4 := Lib.hid (HV3.out.below hb4)
      have HBK4 := Lib.hid (HBK3.out.below hb4 HBK3.out.lt)
      have HB4 := Lib.hid (HB3.out.trans (hb4.mono HB3.out.size))
      have HS24 := Lib.hid (HS2d.out.below hb4)
      have HRW4 := Lib.hid (HRW.out.frm (Frm.of_below (B := 0) (T := []) hb4 (Nat.zero_le _)) (by simp))
      have j0 : W4.cell? ⟨w.heap.size, 0, none⟩ = some (.int .i64 xa) := HBK4.out.cell 0
      have j1 : W4.cell? ⟨w.heap.size, 1, none⟩ = some (.int .u8 xo) := HBK4.out.cell 1
      clear hb4 hW4
      cases q with
      | false =>
        have hr : R = (v, some (46, xa)) := by rw [HR2.out, if_pos (HQ.out.2 rfl)]
        have HR3 := Lib.hid hr
        clear hr HR2
        go_wp2_with fail
        refine (vat_any _ _ _).mono ?_
        rintro e w1 ⟨rfl, rfl⟩
        go_wp2_with fail
        go_ret
        have hb := HB4.out.alloc HB4.out.size (.cells #[.int .i64 46, .int .i64 xa, .int .i64 0, .int .i64 0] 102)
        refine ⟨_, rfl, ?_, ?_, Frm.of_below hb hB⟩
        · rw [HR3.out]; exact ⟨_, rfl, by have := HB4.out.size; omega, Blk.new _ _ _⟩
        · rw [HR3.out]; exact HV4.out.below ((Below.refl _ _).alloc (Nat.le_refl _) _)
      | true =>
        have hr := HR2.out
        rw [if_neg (by rw [HQ.out]; decide)] at hr
        obtain ⟨A9, c9, W9, hrun, hrow, hb9⟩ := bare_app W4 As A2 (s.take k) t2 c2 HRW4.out HS24.out (by rw [HST.out]; omega) (by rw [HN2.out]; omega) (HAS.out.elim (fun h => .inl h.1) (fun h => .inr (h.elim fun g hg => ⟨g, 0, hg⟩)))
        rw [HST.out, HN2.out] at hrun
        obtain ⟨st, hst⟩ : ∃ st, st = s.take k ++ t2 := ⟨_, rfl⟩
        rw [← hst] at hr hrow
        have hsl : st.length = k + n2 := by rw [hst, List.length_append, HST.out, HN2.out]
        have HV9 := Lib.hid (HV4.out.below hb9)
        have HBK9 := Lib.hid (HBK4.out.below hb9 HBK4.out.lt)
        have HB9 := Lib.hid (HB4.out.trans (hb9.mono HB4.out.size))
        have HBR := Lib.hid (HRW4.out.frm (Frm.of_below (B := 0) (T := []) hb9 (Nat.zero_le _)) (by simp))
        have j9 : W9.cell? ⟨w.heap.size, 0, none⟩ = some (.int .i64 xa) := HBK9.out.cell 0
        have j91 : W9.cell? ⟨w.heap.size, 1, none⟩ = some (.int .u8 xo) := HBK9.out.cell 1
        have HRUN := Lib.hid hrun
        have HROW := Lib.hid hrow
        have HR3 := Lib.hid hr
        have HSLN := Lib.hid hsl
        have HSTE := Lib.hid hst
        clear hrun hrow hr hsl hst hb9 HR2 j0 j1 HRW HSO3 HB3 HV3 HBK3 HV4 HBK4 HB4 HS24 HRW4 HEQ HQ
        by_cases c256 : 256 < k + n2
        · have d256 : decide (256 < ((k + n2 : Nat) : Int)) = true := by simp; omega
          have hr : R = (v, some (47, xa)) := by rw [HR3.out, if_pos (by rw [HSLN.out]; exact c256)]
          have HR4 := Lib.hid hr
          clear hr HR3
          go_wp2_with (at_builtin; go_loud (refine wpList_append_run rfl _ _ 23 rfl _ _ _ _ rfl rfl HRUN.out ?_))
          refine (vat_any _ _ _).mono ?_
          rintro e w1 ⟨rfl, rfl⟩
          go_wp2_with fail
          go_ret
          have hb := HB9.out.alloc HB9.out.size (.cells #[.int .i64 47, .int .i64 xa, .int .i64 0, .int .i64 0] 102)
          refine ⟨_, rfl, ?_, ?_, Frm.of_below hb hB⟩
          · rw [HR4.out]; exact ⟨_, rfl, by have := HB9.out.size; omega, Blk.new _ _ _⟩
          · rw [HR4.out]; exact HV9.out.below ((Below.refl _ _).alloc (Nat.le_refl _) _)
        · have d256 : decide (256 < ((k + n2 : Nat) : Int)) = false := by simp; omega
          have hr := HR3.out
          rw [if_neg (by rw [HSLN.out]; exact c256)] at hr
          have HR4 := Lib.hid hr
          clear hr HR3
          by_cases c34 : xo = 34 ∨ xo = 35
          · have hr : R = (v, none) := by rw [HR4.out, if_pos c34]
            have HR5 := Lib.hid hr
            clear hr HR4
            rcases c34 with rfl | rfl
            all_goals
              go_wp2_with (at_builtin; go_loud (refine wpList_append_run rfl _ _ 23 rfl _ _ _ _ rfl rfl HRUN.out ?_))
              go_ret
              refine ⟨_, rfl, ?_, ?_, Frm.of_below HB9.out hB⟩
              · rw [HR5.out]; rfl
              · rw [HR5.out]; exact HV9.out
          have q34 : (xo == 34) = false := by simp; omega
          have q35 : (xo == 35) = false := by simp; omega
          have hr := HR4.out
          rw [if_neg c34] at hr
          have HR5 := Lib.hid hr
          clear hr HR4
          by_cases c30 : xo = 30
          · subst c30
            have hr := HR5.out
            rw [if_pos rfl] at hr
            simp only at hr
            obtain ⟨Wt, hWt⟩ : ∃ Wt, Wt = W9 := ⟨_, rfl⟩
            obtain ⟨vt, hvt⟩ : ∃ vt, vt = v := ⟨_, rfl⟩
            rw [← hvt] at hr
            have HRt := Lib.hid hr
            have HVt := HV9
            have HBt := HBK9
            have HFt := Lib.hid (Frm.of_below (T := TH) HB9.out hB)
            have HROWt := HROW
            have HBRt := HBR
            have HSLt := HSL
            rw [← hvt] at HVt HSLt hh h0 hc
            rw [← hWt] at HVt HBt HFt HROWt HBRt
            clear hr HR5
            have j92 : W9.cell? ⟨w.heap.size, 2, none⟩ = some (.int .i64 xA) := HBK9.out.cell 2
            have j93 : W9.cell? ⟨w.heap.size, 3, none⟩ = some (.int .i64 xB) := HBK9.out.cell 3
            have j94 : W9.cell? ⟨w.heap.size, 4, none⟩ = some (.int .i64 xC) := HBK9.out.cell 4
            go_wp2_with (at_builtin; go_loud (refine wpList_append_run rfl _ _ 23 rfl _ _ _ _ rfl rfl HRUN.out ?_))
            rw [← hWt]
            clear HV9 HBK9 HB9 HROW HBR HRUN hWt hvt HV j9 j91 j92 j93 j94
            have y0 : Wt.cell? ⟨w.heap.size, 0, none⟩ = some (.int .i64 xa) := HBt.out.cell 0
            have y1 : Wt.cell? ⟨w.heap.size, 1, none⟩ = some (.int .u8 30) := HBt.out.cell 1
            have y2 : Wt.cell? ⟨w.heap.size, 2, none⟩ = some (.int .i64 xA) := HBt.out.cell 2
            have y3 : Wt.cell? ⟨w.heap.size, 3, none⟩ = some (.int .i64 xB) := HBt.out.cell 3
            have y4 : Wt.cell? ⟨w.heap.size, 4, none⟩ = some (.int .i64 xC) := HBt.out.cell 4
            have ylt := HBt.out.lt
            have zBt : B ≤ Wt.heap.size := by have := HFt.out.size; omega
            have htv : targetV ⟨xa, 30, xA, xB, xC⟩ = some xA := rfl
            have hrt := HRt.out
            rw [htv] at hrt
            have hta := target_any ⟨xa, 30, xA, xB, xC⟩ Wt
            rw [htv] at hta
            simp only [Ins.cells] at hta
            have HRT := Lib.hid hrt
            have HTA := Lib.hid hta
            have hbT := (Below.refl Wt.heap.size Wt).alloc (Nat.le_refl _) (.cells #[.int .i64 xa, .int .u8 30, .int .i64 xA, .int .i64 xB, .int .i64 xC] 100)
            obtain ⟨Wu, hWu⟩ : ∃ Wu, Wt.alloc (.cells #[.int .i64 xa, .int .u8 30, .int .i64 xA, .int .i64 xB, .int .i64 xC] 100) = Wu := ⟨_, rfl⟩
            rw [hWu] at hbT
            simp only [hWu] at HTA
            have HVu := Lib.hid (HVt.out.below hbT)
            have HBu := Lib.hid (HBt.out.below hbT HBt.out.lt)
            have HFu := Lib.hid (HFt.out.trans (Frm.of_below (T := TH) hbT zBt))
            have HROWu := Lib.hid (HROWt.out.frm (Frm.of_below (B := 0) (T := []) hbT (Nat.zero_le _)) (by simp))
            have HBRu := Lib.hid (HBRt.out.frm (Frm.of_below (B := 0) (T := []) hbT (Nat.zero_le _)) (by simp))
            have v0 : Wu.cell? ⟨w.heap.size, 0, none⟩ = some (.int .i64 xa) := HBu.out.cell 0
            have v1' : Wu.cell? ⟨w.heap.size, 1, none⟩ = some (.int .u8 30) := HBu.out.cell 1
            clear hrt hta htv hbT hWu HVt HBt HFt HROWt HBRt HRt
            simp only [Option.getD_some, Option.isSome_some] at HRT HTA
            have zBu : B ≤ Wu.heap.size := by have := HFu.out.size; omega
            have hg := give_any Wu B kb ib sb hb BA len bc (.slice SA slots.length sc) ints texts l vt xa xA A9 st c9 HVu.out HROWu.out.smalls (by rw [HSLN.out]; omega) hlen zBu HSLt.out (by omega) (by omega) (by omega)
            rw [HSLN.out] at hg
            have hr : R = giveV len xa xA st vt := by rw [HRT.out, if_neg (by decide)]
            rw [← hr] at hg
            have HG := Lib.hid hg
            clear hg hr
            refine HTA.out.mono ?_
            rintro e wz ⟨rfl, rfl⟩
            go_wp2_with fail
            refine HG.out.mono ?_
            rintro e wz2 ⟨r, rfl, hfa, hva, hfr⟩
            have HFA := Lib.hid hfa
            have HVA := Lib.hid hva
            have HFR := Lib.hid (HFu.out.trans hfr)
            clear hfa hva hfr
            go_wp2_with fail
            go_ret
            exact ⟨_, rfl, HFA.out, HVA.out, HFR.out⟩
          · have hr := HR5.out
            rw [if_neg c30] at hr
            have q30 : (xo == 30) = false := by simp; omega
            obtain ⟨k1, k2, k3, k4⟩ := give_keeps len xa (xa + sizeI xo) st v HSL.out (by rw [HSLN.out]; omega)
            obtain ⟨si, hsi⟩ : ∃ si, sizeI xo = si := ⟨_, rfl⟩
            have hsz := fun wx => sizeI_any xo wx
            obtain ⟨hs0, hs5⟩ := sizeI_bd xo
            simp only [hsi] at hsz hr k1 k2 k3 k4 hs0 hs5
            have hg1 := fun wx (hwx : Below W9.heap.size W9 wx) => give_any wx B kb ib sb hb BA len bc (.slice SA slots.length sc) ints texts l v xa (xa + si) A9 st c9 (HV9.out.below hwx) ((HROW.out.frm (Frm.of_below (B := 0) (T := []) hwx (Nat.zero_le _)) (by simp)).smalls) (by rw [HSLN.out]; omega) hlen (by have := HB9.out.size; have := hwx.size; omega) HSL.out (by omega) (by omega) (by omega)
            rw [HSLN.out] at hg1
            obtain ⟨vt, o, hvo⟩ : ∃ vt o, giveV len xa (xa + si) st v = (vt, o) := ⟨_, _, rfl⟩
            simp only [hvo] at hr k1 k2 k3 k4 hg1
            have HG1 := Lib.hid hg1
            have HSZ := Lib.hid hsz
            have HSLt := Lib.hid k1
            have HRo := Lib.hid hr
            have j9d : W9.drew.cell? ⟨w.heap.size, 0, none⟩ = some (.int .i64 xa) := j9
            have j91d : W9.drew.cell? ⟨w.heap.size, 1, none⟩ = some (.int .u8 xo) := j91
            have hwr : IntKind.i64.wrap (xa + si) = xa + si := by rw [IntKind.wrap_i64]; omega
            have zB9 : B ≤ W9.heap.size := by have := HB9.out.size; omega
            clear hr HR5 hg1 hsz k1 hvo hsi
            cases o with
            | some fo =>
              obtain ⟨fe, fo⟩ := fo
              have hrf : R = (vt, some (fe, fo)) := HRo.out
              have HRF := Lib.hid hrf
              clear hrf HRo
              go_wp2_with (at_builtin; go_loud (refine wpList_append_run rfl _ _ 23 rfl _ _ _ _ rfl rfl HRUN.out ?_))
              go_region_held3 (fun w' => w'.cell? ⟨w.heap.size, 0, none⟩ = some (.int .i64 xa) ∧ w'.cell? ⟨w.heap.size, 1, none⟩ = some (.int .u8 xo)) (first | with_reducible exact ⟨j9d, j91d⟩ | with_reducible exact ⟨s50, s51⟩ | with_reducible exact ⟨s60, s61⟩) ((first | (go_at_call 83; refine (HSZ.out _).mono ?_; rintro e w5 ⟨rfl, hb5⟩; have hb59 : Below W9.heap.size W9 w5 := (Below.refl W9.heap.size W9).drew.trans hb5; have hbk5 := HBK9.out.below hb59 HBK9.out.lt; have s50 : w5.cell? ⟨w.heap.size, 0, none⟩ = some (.int .i64 xa) := hbk5.cell 0; have s51 : w5.cell? ⟨w.heap.size, 1, none⟩ = some (.int .u8 xo) := hbk5.cell 1; have HB59 := Lib.hid hb59; have HBK5 := Lib.hid hbk5; clear hb5 hb59 hbk5) | (go_at_call 88; refine (HG1.out _ HB59.out).mono ?_; rintro e w6 ⟨r6, rfl, hfa, hva, hfr⟩; obtain ⟨fb, rfl, hfB, hfk⟩ := hfa; have HFA6 := Lib.hid hfk; clear hfk; have hf69 := (Frm.of_below (T := TH) HB59.out zB9).trans hfr; have hbk6 := hf69.blk HBK9.out (by decide); have s60 : w6.cell? ⟨w.heap.size, 0, none⟩ = some (.int .i64 xa) := hbk6.cell 0; have s61 : w6.cell? ⟨w.heap.size, 1, none⟩ = some (.int .u8 xo) := hbk6.cell 1; have s62 : w6.cell? ⟨w.heap.size, 2, none⟩ = some (.int .i64 xA) := hbk6.cell 2; have s63 : w6.cell? ⟨w.heap.size, 3, none⟩ = some (.int .i64 xB) := hbk6.cell 3; have s64 : w6.cell? ⟨w.heap.size, 4, none⟩ = some (.int .i64 xC) := hbk6.cell 4; have HV6 := Lib.hid hva; have HBK6 := Lib.hid hbk6; have HF6 := Lib.hid ((Frm.of_below (T := TH) HB9.out hB).trans hf69); have HROW6 := Lib.hid (HROW.out.frm hf69 (by decide)); have HBR6 := Lib.hid (HBR.out.frm hf69 (by decide)); clear hva hfr hf69 hbk6)))
              all_goals
                go_wp2_with fail
                go_ret
                exact ⟨_, rfl, by rw [HRF.out]; exact ⟨_, rfl, hfB, HFA6.out⟩, by rw [HRF.out]; exact HV6.out, HF6.out⟩
            | none =>
              go_wp2_with (at_builtin; go_loud (refine wpList_append_run rfl _ _ 23 rfl _ _ _ _ rfl rfl HRUN.out ?_))
              go_region_held3 (fun w' => w'.cell? ⟨w.heap.size, 0, none⟩ = some (.int .i64 xa) ∧ w'.cell? ⟨w.heap.size, 1, none⟩ = some (.int .u8 xo)) (first | with_reducible exact ⟨j9d, j91d⟩ | with_reducible exact ⟨s50, s51⟩ | with_reducible exact ⟨s60, s61⟩) ((first | (go_at_call 83; refine (HSZ.out _).mono ?_; rintro e w5 ⟨rfl, hb5⟩; have hb59 : Below W9.heap.size W9 w5 := (Below.refl W9.heap.size W9).drew.trans hb5; have hbk5 := HBK9.out.below hb59 HBK9.out.lt; have s50 : w5.cell? ⟨w.heap.size, 0, none⟩ = some (.int .i64 xa) := hbk5.cell 0; have s51 : w5.cell? ⟨w.heap.size, 1, none⟩ = some (.int .u8 xo) := hbk5.cell 1; have HB59 := Lib.hid hb59; have HBK5 := Lib.hid hbk5; clear hb5 hb59 hbk5) | (go_at_call 88; refine (HG1.out _ HB59.out).mono ?_; rintro e w6 ⟨r6, rfl, hfa, hva, hfr⟩; have hr6 : r6 = Value.pointer none := hfa; clear hfa; subst hr6; have hf69 := (Frm.of_below (T := TH) HB59.out zB9).trans hfr; have hbk6 := hf69.blk HBK9.out (by decide); have s60 : w6.cell? ⟨w.heap.size, 0, none⟩ = some (.int .i64 xa) := hbk6.cell 0; have s61 : w6.cell? ⟨w.heap.size, 1, none⟩ = some (.int .u8 xo) := hbk6.cell 1; have s62 : w6.cell? ⟨w.heap.size, 2, none⟩ = some (.int .i64 xA) := hbk6.cell 2; have s63 : w6.cell? ⟨w.heap.size, 3, none⟩ = some (.int .i64 xB) := hbk6.cell 3; have s64 : w6.cell? ⟨w.heap.size, 4, none⟩ = some (.int .i64 xC) := hbk6.cell 4; have HV6 := Lib.hid hva; have HBK6 := Lib.hid hbk6; have HF6 := Lib.hid ((Frm.of_below (T := TH) HB9.out hB).trans hf69); have HROW6 := Lib.hid (HROW.out.frm hf69 (by decide)); have HBR6 := Lib.hid (HBR.out.frm hf69 (by decide)); clear hva hfr hf69 hbk6)))
              go_wp2_with fail
              have HRt : Hid (R = match targetV ⟨xa, xo, xA, xB, xC⟩ with | none => (vt, none) | some tg => giveV len xa tg (if xo = 32 ∨ xo = 33 then s.take k else st) vt) := HRo
              obtain ⟨Wt, hWt⟩ : ∃ Wt, Wt = w6 := ⟨_, rfl⟩
              have HVt := HV6
              have HBt := HBK6
              have HFt := HF6
              have HROWt := HROW6
              have HBRt := HBR6
              rw [← hWt] at HVt HBt HFt HROWt HBRt ⊢
              clear HV9 HBK9 HB9 HROW HBR HRUN hWt HV j9 j91 HV6 HBK6 HF6 HROW6 HBR6 s60 s61 s62 s63 s64 HRo HG1 HSZ
              have y0 : Wt.cell? ⟨w.heap.size, 0, none⟩ = some (.int .i64 xa) := HBt.out.cell 0
              have y1 : Wt.cell? ⟨w.heap.size, 1, none⟩ = some (.int .u8 xo) := HBt.out.cell 1
              have y2 : Wt.cell? ⟨w.heap.size, 2, none⟩ = some (.int .i64 xA) := HBt.out.cell 2
              have y3 : Wt.cell? ⟨w.heap.size, 3, none⟩ = some (.int .i64 xB) := HBt.out.cell 3
              have y4 : Wt.cell? ⟨w.heap.size, 4, none⟩ = some (.int .i64 xC) := HBt.out.cell 4
              have ylt := HBt.out.lt
              have zBt : B ≤ Wt.heap.size := by have := HFt.out.size; omega
              obtain ⟨tv, htv⟩ : ∃ tv, targetV ⟨xa, xo, xA, xB, xC⟩ = tv := ⟨_, rfl⟩
              have hrt := HRt.out
              rw [htv] at hrt
              have hta := target_any ⟨xa, xo, xA, xB, xC⟩ Wt
              rw [htv] at hta
              simp only [Ins.cells] at hta
              have HRT := Lib.hid hrt
              have HTA := Lib.hid hta
              have hbT := (Below.refl Wt.heap.size Wt).alloc (Nat.le_refl _) (.cells #[.int .i64 xa, .int .u8 xo, .int .i64 xA, .int .i64 xB, .int .i64 xC] 100)
              obtain ⟨Wu, hWu⟩ : ∃ Wu, Wt.alloc (.cells #[.int .i64 xa, .int .u8 xo, .int .i64 xA, .int .i64 xB, .int .i64 xC] 100) = Wu := ⟨_, rfl⟩
              rw [hWu] at hbT
              simp only [hWu] at HTA
              have HVu := Lib.hid (HVt.out.below hbT)
              have HBu := Lib.hid (HBt.out.below hbT HBt.out.lt)
              have HFu := Lib.hid (HFt.out.trans (Frm.of_below (T := TH) hbT zBt))
              have HROWu := Lib.hid (HROWt.out.frm (Frm.of_below (B := 0) (T := []) hbT (Nat.zero_le _)) (by simp))
              have HBRu := Lib.hid (HBRt.out.frm (Frm.of_below (B := 0) (T := []) hbT (Nat.zero_le _)) (by simp))
              have v0 : Wu.cell? ⟨w.heap.size, 0, none⟩ = some (.int .i64 xa) := HBu.out.cell 0
              have v1' : Wu.cell? ⟨w.heap.size, 1, none⟩ = some (.int .u8 xo) := HBu.out.cell 1
              clear hrt hta htv hbT hWu HVt HBt HFt HROWt HBRt HRt
              cases tv with
              | none =>
                simp only at HRT
                refine HTA.out.mono ?_
                rintro e wz ⟨rfl, rfl⟩
                go_wp2_with fail
                go_ret
                refine ⟨_, rfl, ?_, ?_, HFu.out⟩
                · rw [HRT.out]; rfl
                · rw [HRT.out]; exact HVu.out
              | some tg =>
                simp only [Option.getD_some, Option.isSome_some] at HRT HTA
                have zBu : B ≤ Wu.heap.size := by have := HFu.out.size; omega
                by_cases c32 : xo = 32 ∨ xo = 33
                · have hg := give_any Wu B kb ib sb hb BA len bc (.slice SA slots.length sc) ints texts l vt xa tg As (s.take k) k HVu.out HBRu.out.smalls (by rw [HST.out]; omega) hlen zBu HSLt.out (by omega) (by omega) (by omega)
                  rw [HST.out] at hg
                  have hr : R = giveV len xa tg (s.take k) vt := by rw [HRT.out, if_pos c32]
                  rw [← hr] at hg
                  have HG := Lib.hid hg
                  clear hg hr
                  rcases c32 with rfl | rfl
                  all_goals
                    refine HTA.out.mono ?_
                    rintro e wz ⟨rfl, rfl⟩
                    go_wp2_with fail
                    refine HG.out.mono ?_
                    rintro e wz2 ⟨r, rfl, hfa, hva, hfr⟩
                    have HFA := Lib.hid hfa
                    have HVA := Lib.hid hva
                    have HFR := Lib.hid (HFu.out.trans hfr)
                    clear hfa hva hfr
                    go_wp2_with fail
                    go_ret
                    exact ⟨_, rfl, HFA.out, HVA.out, HFR.out⟩
                · have hg := give_any Wu B kb ib sb hb BA len bc (.slice SA slots.length sc) ints texts l vt xa tg A9 st c9 HVu.out HROWu.out.smalls (by rw [HSLN.out]; omega) hlen zBu HSLt.out (by omega) (by omega) (by omega)
                  rw [HSLN.out] at hg
                  have hr : R = giveV len xa tg st vt := by rw [HRT.out, if_neg c32]
                  rw [← hr] at hg
                  have HG := Lib.hid hg
                  have q32 : (xo == 32) = false := by simp; omega
                  have q33 : (xo == 33) = false := by simp; omega
                  clear hg hr
                  refine HTA.out.mono ?_
                  rintro e wz ⟨rfl, rfl⟩
                  go_wp2_with fail
                  refine HG.out.mono ?_
                  rintro e wz2 ⟨r, rfl, hfa, hva, hfr⟩
                  have HFA := Lib.hid hfa
                  have HVA := Lib.hid hva
                  have HFR := Lib.hid (HFu.out.trans hfr)
                  clear hfa hva hfr
                  go_wp2_with fail
                  go_ret
                  exact ⟨_, rfl, HFA.out, HVA.out, HFR.out⟩
end
end Go.Proofs.YtabpheanbomibaaGreatDoor
