/- verify.Pack. -/
import Derived.Test.YtabpheanbomibaaGreatDoorPkC
import Derived.Test.YtabpheanbomibaaGreatDoorVerE
import Derived.Test.YtabpheanbomibaaGreatDoorVerU
namespace Go.Proofs.YtabpheanbomibaaGreatDoor
open Go.RowKit
set_option linter.unusedVariables false

/-- As EffAt, KndAt, KndsAt, and the code's room is told. -/
def EffAtC (w : World) (b o : Nat) (x : Eff) : Prop := ∃ SA sc CA cc, w.cell? ⟨b, o, none⟩ = some (.int .i64 x.on) ∧ w.cell? ⟨b, o + 1, none⟩ = some (.slice SA x.slots.length sc) ∧ w.cell? ⟨b, o + 2, none⟩ = some (.slice CA x.code.length cc) ∧ w.cell? ⟨b, o + 3, none⟩ = some (.int .i64 x.bound) ∧ SmallsAt w SA x.slots ∧ BytesAt w CA x.code ∧ x.code.length ≤ cc
theorem EffAtC.below {w w' : World} {b o : Nat} {x : Eff} (h : EffAtC w b o x) (hb : Below w.heap.size w w') (hl : b < w.heap.size) : EffAtC w' b o x := by
  obtain ⟨SA, sc, CA, cc, h0, h1, h2, h3, h4, h5, h6⟩ := h
  exact ⟨SA, sc, CA, cc, (hb.cell (p := ⟨b, _, none⟩) hl).trans h0, (hb.cell (p := ⟨b, _, none⟩) hl).trans h1, (hb.cell (p := ⟨b, _, none⟩) hl).trans h2, (hb.cell (p := ⟨b, _, none⟩) hl).trans h3, h4.below hb, h5.below hb, h6⟩
def EffsAtC (w : World) (A : Option Addr) (l : List Eff) : Prop := ∀ i x, l[i]? = some x → ∃ b off, A = some ⟨b, off, none⟩ ∧ b < w.heap.size ∧ EffAtC w b (off + i * 4) x
theorem EffsAtC.below {w w' : World} {A : Option Addr} {l : List Eff} (h : EffsAtC w A l) (hb : Below w.heap.size w w') : EffsAtC w' A l := by
  intro i x hx
  obtain ⟨b, off, h1, h2, h3⟩ := h i x hx
  exact ⟨b, off, h1, Nat.lt_of_lt_of_le h2 hb.size, h3.below hb h2⟩
def KndAtC (w : World) (b o : Nat) (x : Knd) : Prop := ∃ TA tc EA ec, w.cell? ⟨b, o, none⟩ = some (.int .i64 x.name) ∧ w.cell? ⟨b, o + 1, none⟩ = some (.int .i64 x.cost) ∧ w.cell? ⟨b, o + 2, none⟩ = some (.int .i64 x.power) ∧ w.cell? ⟨b, o + 3, none⟩ = some (.int .i64 x.health) ∧
  w.cell? ⟨b, o + 4, none⟩ = some (.slice TA x.tags.length tc) ∧ w.cell? ⟨b, o + 5, none⟩ = some (.slice EA x.effs.length ec) ∧ EffsAtC w EA x.effs
theorem KndAtC.below {w w' : World} {b o : Nat} {x : Knd} (h : KndAtC w b o x) (hb : Below w.heap.size w w') (hl : b < w.heap.size) : KndAtC w' b o x := by
  obtain ⟨TA, tc, EA, ec, h0, h1, h2, h3, h4, h5, h6⟩ := h
  exact ⟨TA, tc, EA, ec, (hb.cell (p := ⟨b, _, none⟩) hl).trans h0, (hb.cell (p := ⟨b, _, none⟩) hl).trans h1, (hb.cell (p := ⟨b, _, none⟩) hl).trans h2, (hb.cell (p := ⟨b, _, none⟩) hl).trans h3, (hb.cell (p := ⟨b, _, none⟩) hl).trans h4, (hb.cell (p := ⟨b, _, none⟩) hl).trans h5, h6.below hb⟩
def KndsAtC (w : World) (A : Option Addr) (l : List Knd) : Prop := ∀ i x, l[i]? = some x → ∃ b off, A = some ⟨b, off, none⟩ ∧ b < w.heap.size ∧ KndAtC w b (off + i * 6) x
theorem effsAtC_wide {w : World} {B b : Nat} {l : List Eff} {cs : Array Value} (hby : ∀ x ∈ l, ∀ y ∈ x.code, 0 ≤ y ∧ y ≤ 255) (h : EffBlk w B b (l.length + 64) l (l.length + 64) cs) : EffsAtC w (some ⟨b, 0, none⟩) l := by
  intro i x hx
  have hi := (List.getElem?_eq_some_iff.1 hx).1
  obtain ⟨b1, b2, m0, m1, m2, m3, _, _, h1, h2⟩ := h.one i x (by omega) hx
  exact ⟨b, 0, rfl, h.blk.lt, some ⟨b1, 0, none⟩, _, some ⟨b2, 0, none⟩, _, by rw [Nat.zero_add]; exact (h.blk.cell _).trans m0, by rw [Nat.zero_add]; exact (h.blk.cell _).trans m1, by rw [Nat.zero_add]; exact (h.blk.cell _).trans m2, by rw [Nat.zero_add]; exact (h.blk.cell _).trans m3, smallsAt_wide h1, bytesAt_wide (hby x (List.mem_of_getElem? hx)) h2, by omega⟩
theorem kndsAtC_wide {w : World} {B b : Nat} {l : List Knd} {cs : Array Value} (hby : ∀ k ∈ l, ∀ x ∈ k.effs, ∀ y ∈ x.code, 0 ≤ y ∧ y ≤ 255) (h : KndBlk w B b (l.length + 64) l (l.length + 64) cs) : KndsAtC w (some ⟨b, 0, none⟩) l := by
  intro i x hx
  have hi := (List.getElem?_eq_some_iff.1 hx).1
  obtain ⟨b1, b2, m0, m1, m2, m3, m4, m5, _, _, h1, ds, h2⟩ := h.one i x (by omega) hx
  exact ⟨b, 0, rfl, h.blk.lt, some ⟨b1, 0, none⟩, _, some ⟨b2, 0, none⟩, _, by rw [Nat.zero_add]; exact (h.blk.cell _).trans m0, by rw [Nat.zero_add]; exact (h.blk.cell _).trans m1, by rw [Nat.zero_add]; exact (h.blk.cell _).trans m2, by rw [Nat.zero_add]; exact (h.blk.cell _).trans m3, by rw [Nat.zero_add]; exact (h.blk.cell _).trans m4, by rw [Nat.zero_add]; exact (h.blk.cell _).trans m5, effsAtC_wide (hby x (List.mem_of_getElem? hx)) h2⟩
theorem packV_bad {p : Pck} {e : Int} (h : checkP ltB p = some e) : packV ltB p = (e, 0, 0, 0) := by
  unfold packV
  rw [h]
theorem packV_good {p : Pck} (h : checkP ltB p = none) : packV ltB p = (firstS (kndF p) p.kinds.length).getD (0, 0, 0, 0) := by
  unfold packV
  rw [h]
theorem kndF_at {p : Pck} {i : Nat} {x : Knd} (h : p.kinds[i]? = some x) : kndF p i = firstS (effF p i) x.effs.length := by
  unfold kndF
  rw [getD_at h]
theorem effF_none {p : Pck} {i n : Nat} {k : Knd} {x : Eff} {a b : Int} (h : p.kinds[i]? = some k) (hx : k.effs[n]? = some x) (hc : (codeV x.code x.slots p.ints.length p.texts.length).2.2 = (a, b)) (h1 : a = 0) (h2 : b = 0) : effF p i n = none := by
  unfold effF
  simp only
  rw [getD_at h, getD_at hx, hc, if_pos ⟨h1, h2⟩]
theorem effF_some {p : Pck} {i n : Nat} {k : Knd} {x : Eff} {a b : Int} (h : p.kinds[i]? = some k) (hx : k.effs[n]? = some x) (hc : (codeV x.code x.slots p.ints.length p.texts.length).2.2 = (a, b)) (h1 : ¬(a = 0 ∧ b = 0)) : effF p i n = some (a, b, (i : Int), (n : Int)) := by
  unfold effF
  simp only
  rw [getD_at h, getD_at hx, hc, if_neg h1]
theorem fault_put {w : World} {C g : Nat} {a b c d : Value} (h : Blk w g 32 #[a, b, c, d]) (hC : C ≤ g) (a' b' c' d' : Value) : Blk ((((w.setCell ⟨g, 0, none⟩ a').setCell ⟨g, 1, none⟩ b').setCell ⟨g, 2, none⟩ c').setCell ⟨g, 3, none⟩ d') g 32 #[a', b', c', d'] ∧ Frm C [32] w ((((w.setCell ⟨g, 0, none⟩ a').setCell ⟨g, 1, none⟩ b').setCell ⟨g, 2, none⟩ c').setCell ⟨g, 3, none⟩ d') := by
  have b1 := h.set_ 0 a'
  have b2 := b1.set_ 1 b'
  have b3 := b2.set_ 2 c'
  have b4 := b3.set_ 3 d'
  exact ⟨b4, (((Frm.refl C [32] w).set_ (i := 0) h hC (by simp) a').set_ (i := 1) b1 hC (by simp) b').set_ (i := 2) b2 hC (by simp) c' |>.set_ (i := 3) b3 hC (by simp) d'⟩
def fault4 (R : Int × Int × Int × Int) : Value := .agg #[.int .i64 R.1, .int .i64 R.2.1, .int .i64 R.2.2.1, .int .i64 R.2.2.2]
set_option maxRecDepth 100000 in
set_option maxHeartbeats 4000000 in
theorem verifyPack_any (p : Pck) (IA TA KA : Option Addr) (ic tc kc : Nat) (w : World) (hp : PckAt w IA TA KA p) (hk : KndsAtC w KA p.kinds) (hs : PckSm p) (hty : PckTy p) :
    Calls Tryz.prog 22 #[.agg (pckV p IA TA KA ic tc kc)] w fun e w' => e = .returned (fault4 (packV ltB p)) ∧ Below w.heap.size w w' := by
  obtain ⟨R, hR⟩ : ∃ R, R = packV ltB p := ⟨_, rfl⟩
  rw [← hR]
  obtain ⟨P, hP⟩ : ∃ P, P = p := ⟨_, rfl⟩
  obtain ⟨Q, hQ⟩ : ∃ Q, checkP ltB p = Q := ⟨_, rfl⟩
  have hq := fun (wx : World) (h : Below w.heap.size w wx) => packCheck_any p IA TA KA ic tc kc wx (hp.below h) hs hty
  have r1 : ∀ e, Q = some e → R = (e, 0, 0, 0) := fun e h => by rw [hR, packV_bad (by rw [hQ, h])]
  have r2 : Q = none → R = (firstS (kndF P) p.kinds.length).getD (0, 0, 0, 0) := fun h => by rw [hR, hP, packV_good (by rw [hQ, h])]
  have hz := checkP_nz ltB p
  rw [hQ] at hq hz
  clear hR hQ hp
  obtain ⟨cards, ints, texts, kinds⟩ := p
  obtain ⟨l1, l2, l3, l4, l5⟩ := hs
  simp only [pckV] at hk l1 l2 l3 l4 l5 r1 r2 hq ⊢
  obtain ⟨ni, hni⟩ : ∃ n, ints.length = n := ⟨_, rfl⟩
  obtain ⟨nt, hnt⟩ : ∃ n, texts.length = n := ⟨_, rfl⟩
  obtain ⟨nk, hnk⟩ : ∃ n, kinds.length = n := ⟨_, rfl⟩
  rw [hni] at l1 hq ⊢
  rw [hnt] at l2 hq ⊢
  rw [hnk] at l4 r2 hq ⊢
  have hPi : P.ints.length = ni := by rw [hP]; exact hni
  have hPt : P.texts.length = nt := by rw [hP]; exact hnt
  have hPk : P.kinds = kinds := by rw [hP]
  obtain ⟨W, hW⟩ : ∃ W, W = (w.alloc (.cells #[.int .i64 cards, .slice IA ni ic, .slice TA nt tc, .slice KA nk kc] 75)).alloc (.cells #[.int .i64 0, .int .i64 0, .int .i64 0, .int .i64 0] 32) := ⟨_, rfl⟩
  obtain ⟨B, hB⟩ : ∃ B, w.heap.size = B := ⟨_, rfl⟩
  rw [hB] at hq
  have HBW := Lib.hid (show Below B w W by rw [hW, ← hB]; exact ((Below.refl _ _).alloc (Nat.le_refl _) _).alloc (by simp) _)
  have HPB := Lib.hid (show Blk W B 75 #[.int .i64 cards, .slice IA ni ic, .slice TA nt tc, .slice KA nk kc] by rw [hW, ← hB]; exact (Blk.new _ _ _).alloc _)
  have HFB := Lib.hid (show Blk W (B + 1) 32 #[.int .i64 0, .int .i64 0, .int .i64 0, .int .i64 0] by rw [hW, ← hB]; have := Blk.new (w.alloc (.cells #[.int .i64 cards, .slice IA ni ic, .slice TA nt tc, .slice KA nk kc] 75)) 32 #[.int .i64 0, .int .i64 0, .int .i64 0, .int .i64 0]; simpa using this)
  have HW := Lib.hid hW
  have HCP := Lib.hid hq
  have R1 := Lib.hid r1
  have R2 := Lib.hid r2
  have HK := Lib.hid hk
  have HNK := Lib.hid hnk
  have L5 := Lib.hid l5
  have HZ := Lib.hid hz
  have HPI := Lib.hid hPi
  have HPT := Lib.hid hPt
  have HPK := Lib.hid hPk
  have hnq := neq_fault
  clear r1 r2 hk hni hnt hnk l3 l5 hq hz hty hPi hPt hPk hP hW
  go_enter Tryz.func22, Tryz.ntmps22
  go_wp2_with fail
  rw [← HW.out]
  refine (HCP.out _ HBW.out).mono ?_
  rintro e w1 ⟨rfl, hb1⟩
  have hpb := HPB.out.below hb1 HPB.out.lt
  have hfb := HFB.out.below hb1 HFB.out.lt
  obtain ⟨x0, x1, x2, x3, _, _, _, _⟩ := hpb.four
  obtain ⟨f0, f1, f2, f3, g0, g1, g2, g3⟩ := hfb.four
  have HB1 := Lib.hid (HBW.out.trans (hb1.mono (by have := HPB.out.lt; omega)))
  have HPB1 := Lib.hid hpb
  have HFB1 := Lib.hid hfb
  clear hb1 hpb hfb HBW HPB HFB
  cases Q with
  | some e0 =>
    obtain ⟨z1, z2, z3⟩ := HZ.out e0 rfl
    have HE := Lib.hid (R1.out e0 rfl)
    obtain ⟨p1, p2⟩ := fault_put (C := B) HFB1.out (by omega) (.int .i64 e0) (.int .i64 0) (.int .i64 0) (.int .i64 0)
    obtain ⟨e0', e1', e2', e3', _, _, _, _⟩ := p1.four
    have HBE := Lib.hid (HB1.out.trans p2.below)
    simp only [errO, Option.getD_some]
    clear p1 p2
    go_wp2_with fail
    exact bodyPost_ret (v := fault4 (e0, 0, 0, 0)) (by simp [results, Tryz.results22, go_sem, fault4, e0', e1', e2', e3']) rfl ⟨by rw [HE.out], by rw [hB]; exact HBE.out⟩
  | none =>
    simp only [errO, Option.getD_none]
    have RK := Lib.hid (R2.out rfl)
    have hpb := HPB1.out.alloc (.cells #[.int .i64 0, .int .i64 0, .int .i64 0, .int .i64 0] 32)
    have hfb := HFB1.out.alloc (.cells #[.int .i64 0, .int .i64 0, .int .i64 0, .int .i64 0] 32)
    have hnb := Blk.new w1 32 #[.int .i64 0, .int .i64 0, .int .i64 0, .int .i64 0]
    have hb2 := HB1.out.alloc (by have := HB1.out.size; omega) (.cells #[.int .i64 0, .int .i64 0, .int .i64 0, .int .i64 0] 32)
    clear x0 x1 x2 x3 f0 f1 f2 f3 g0 g1 g2 g3
    obtain ⟨x0, x1, x2, x3, _, _, _, _⟩ := hpb.four
    have HPB2 := Lib.hid hpb
    have HFB2 := Lib.hid hfb
    have HNB2 := Lib.hid hnb
    have HB2 := Lib.hid hb2
    clear R1 R2 hpb hfb hnb hb2
    obtain ⟨nb, hnbe⟩ : ∃ nb, nb = w1.heap.size := ⟨_, rfl⟩
    have HNB3 := Lib.hid (show Blk _ nb 32 #[.int .i64 0, .int .i64 0, .int .i64 0, .int .i64 0] by rw [hnbe]; exact HNB2.out)
    have hBnb : B + 1 < nb := by rw [hnbe]; exact HFB1.out.lt
    have HNBE := Lib.hid hnbe
    clear HNB2 hnbe
    go_wp2_with fail
    rw [← HNBE.out]
    go_loopw [22] (fun iv wr => ∃ i : Nat, i ≤ nk ∧ iv = .int .i64 i ∧ Hid (∀ j, j < i → kndF P j = none) ∧ Below B w wr ∧ Blk wr B 75 #[.int .i64 cards, .slice IA ni ic, .slice TA nt tc, .slice KA nk kc] ∧ Blk wr (B + 1) 32 #[.int .i64 0, .int .i64 0, .int .i64 0, .int .i64 0] ∧ Blk wr nb 32 #[.int .i64 0, .int .i64 0, .int .i64 0, .int .i64 0]) (fun iv _ => nk - (intOf iv).toNat)
    case atStart => exact ⟨0, by omega, rfl, Lib.hid (fun j hj => absurd hj (by omega)), HB2.out, HPB2.out, HFB2.out, HNB3.out⟩
    case round =>
      clear x0 x1 x2 x3 HB2 HPB2 HFB2 HNB3 HPB1 HFB1
      obtain ⟨i, hi, rfl, HG, hbel, hpb, hfb, hnb⟩ := hrel
      by_cases hin : i < nk
      · obtain ⟨x, hx⟩ : ∃ x, kinds[i]? = some x := ⟨_, List.getElem?_eq_getElem (by rw [HNK.out]; exact hin)⟩
        obtain ⟨b, off, rfl, hbl, hxa⟩ := HK.out i x hx
        rw [hB] at hbl
        obtain ⟨TA', tc', EA, ec, c0, c1, c2, c3, c4, c5, hE⟩ := hxa.below (by rw [hB]; exact hbel) (by rw [hB]; exact hbl)
        obtain ⟨s1, s2, s3⟩ := L5.out x (List.mem_of_getElem? hx)
        have hba := (Below.refl wr.heap.size wr).alloc (Nat.le_refl _) (.cells (kndV x TA' EA tc' ec) 123)
        have HX := Lib.hid (show P.kinds[i]? = some x by rw [HPK.out]; exact hx)
        have hkf := kndF_at HX.out
        obtain ⟨nm, co, po, he, tags, effs⟩ := x
        simp only [kndV] at hba c0 c1 c2 c3 c4 c5 s1 s2 s3 hE hkf
        obtain ⟨ng, hng⟩ : ∃ n, tags.length = n := ⟨_, rfl⟩
        obtain ⟨ne, hne⟩ : ∃ n, effs.length = n := ⟨_, rfl⟩
        rw [hng] at c4 s1 hba
        rw [hne] at c5 s2 hba hkf
        have hii : (i : Int) < nk := by omega
        have HKF := Lib.hid hkf
        have HE := Lib.hid hE
        have HSM := Lib.hid s3
        have HNE := Lib.hid hne
        have HBA := Lib.hid hba
        have hBr : B ≤ wr.heap.size := by have := hpb.lt; omega
        have HB := Lib.hid (hbel.trans (hba.mono hBr))
        have HPB := Lib.hid (hpb.alloc (.cells #[.int .i64 nm, .int .i64 co, .int .i64 po, .int .i64 he, .slice TA' ng tc', .slice EA ne ec] 123))
        have HFB := Lib.hid (hfb.alloc (.cells #[.int .i64 nm, .int .i64 co, .int .i64 po, .int .i64 he, .slice TA' ng tc', .slice EA ne ec] 123))
        have HNB := Lib.hid (hnb.alloc (.cells #[.int .i64 nm, .int .i64 co, .int .i64 po, .int .i64 he, .slice TA' ng tc', .slice EA ne ec] 123))
        clear hx hxa hkf s3 hE hng hne hbel hba hpb hfb hnb
        go_wp2_with fail
        go_loopw [30] (fun jv w3 => ∃ j : Nat, j ≤ ne ∧ jv = .int .i64 j ∧ Hid (∀ t, t < j → effF P i t = none) ∧ Below wr.heap.size wr w3 ∧ Below B w w3 ∧ Blk w3 B 75 #[.int .i64 cards, .slice IA ni ic, .slice TA nt tc, .slice (some ⟨b, off, none⟩) nk kc] ∧ Blk w3 (B + 1) 32 #[.int .i64 0, .int .i64 0, .int .i64 0, .int .i64 0] ∧ Blk w3 nb 32 #[.int .i64 0, .int .i64 0, .int .i64 0, .int .i64 0]) (fun jv _ => ne - (intOf jv).toNat)
        case atStart => exact ⟨0, by omega, rfl, Lib.hid (fun j hj => absurd hj (by omega)), HBA.out, HB.out, HPB.out, HFB.out, HNB.out⟩
        case round =>
          clear HBA HB HPB HFB HNB c0 c1 c2 c3 c4 c5
          obtain ⟨j, hj, rfl, HGE, hb3, hb4, hpb, hfb, hnb⟩ := hrel
          by_cases hjn : j < ne
          · obtain ⟨e, he2⟩ : ∃ e, effs[j]? = some e := ⟨_, List.getElem?_eq_getElem (by rw [HNE.out]; exact hjn)⟩
            obtain ⟨b2, off2, rfl, hbl2, hea⟩ := HE.out j e he2
            obtain ⟨SA, sc, CA, cc, e0, e1, e2, e3, hS, hC, hcap⟩ := hea.below hb3 hbl2
            obtain ⟨k4, k5⟩ := HSM.out e (List.mem_of_getElem? he2)
            have hea2 := (Below.refl wr.heap.size wr).alloc (Nat.le_refl _) (.cells (effV e SA CA sc cc) 125)
            have hcall := code_any (wr.alloc (.cells (effV e SA CA sc cc) 125)) CA SA e.code e.slots cc sc ni nt (hC.below hea2) hcap (by omega) (by omega) (hS.below hea2)
            have HE2 := Lib.hid he2
            obtain ⟨on, slots, code, bd⟩ := e
            obtain ⟨T, hT⟩ : ∃ T, codeV code slots ni nt = T := ⟨_, rfl⟩
            obtain ⟨a, hTa⟩ : ∃ a, T.2.2.1 = a := ⟨_, rfl⟩
            obtain ⟨bo, hTb⟩ : ∃ a, T.2.2.2 = a := ⟨_, rfl⟩
            have hfe : (codeV code slots P.ints.length P.texts.length).2.2 = (a, bo) := by rw [HPI.out, HPT.out, hT, ← hTa, ← hTb]
            unfold CodeEnd at hcall
            simp only [effV, hT, hTa, hTb] at hcall hea2 e0 e1 e2 e3
            obtain ⟨n1, hn1⟩ : ∃ n, slots.length = n := ⟨_, rfl⟩
            obtain ⟨n2, hn2⟩ : ∃ n, code.length = n := ⟨_, rfl⟩
            simp only [hn1, hn2] at hcall hea2 e1 e2
            have hpa := hpb.alloc (.cells #[.int .i64 on, .slice SA n1 sc, .slice CA n2 cc, .int .i64 bd] 125)
            obtain ⟨x0, x1, x2, x3, _, _, _, _⟩ := hpa.four
            have hB3 : B ≤ wr.heap.size := by have := hpb.lt; omega
            have hr3 := hb3.size
            have HCA := Lib.hid hcall
            have HFE := Lib.hid hfe
            have HB3 := Lib.hid (hb3.trans (hea2.mono hr3))
            have HB4 := Lib.hid (hb4.trans (hea2.mono hB3))
            have HPB := Lib.hid hpa
            have HFB := Lib.hid (hfb.alloc (.cells #[.int .i64 on, .slice SA n1 sc, .slice CA n2 cc, .int .i64 bd] 125))
            have HNB := Lib.hid (hnb.alloc (.cells #[.int .i64 on, .slice SA n1 sc, .slice CA n2 cc, .int .i64 bd] 125))
            have hjj : (j : Int) < ne := by omega
            clear he2 hea hS hC hcap hcall hT hTa hTb hfe hn1 hn2 hpa hb3 hb4 hpb hfb hnb hea2 k4 k5
            go_wp2_with fail
            refine HCA.out.mono ?_
            rintro e w4 ⟨v, rfl, _, _, hb5⟩
            have hnl := HNB.out.lt
            have hnf : nb < w4.heap.size := Nat.lt_of_lt_of_le hnl hb5.size
            have hf5 : Blk (w4.alloc (.cells #[.int .i64 a, .int .i64 bo, .int .i64 0, .int .i64 0] 32)) w4.heap.size 32 #[.int .i64 a, .int .i64 bo, .int .i64 0, .int .i64 0] := Blk.new _ _ _
            have hn5 := (HNB.out.below hb5 hnl).alloc (.cells #[.int .i64 a, .int .i64 bo, .int .i64 0, .int .i64 0] 32)
            have HR4 := Lib.hid (HFB.out.below hb5 HFB.out.lt)
            have HBW4 := Lib.hid (HB4.out.trans (hb5.mono (by have := HPB.out.lt; omega)))
            have hr5 := (HFB.out.below hb5 HFB.out.lt).alloc (.cells #[.int .i64 a, .int .i64 bo, .int .i64 0, .int .i64 0] 32)
            have hp5 := (HPB.out.below hb5 HPB.out.lt).alloc (.cells #[.int .i64 a, .int .i64 bo, .int .i64 0, .int .i64 0] 32)
            have hB5 := (HB4.out.trans (hb5.mono (by have := HPB.out.lt; omega))).alloc (by have := HPB.out.lt; have := hb5.size; omega) (.cells #[.int .i64 a, .int .i64 bo, .int .i64 0, .int .i64 0] 32)
            have hW5 := (HB3.out.trans (hb5.mono HB3.out.size)).alloc (by have := HB3.out.size; have := hb5.size; omega) (.cells #[.int .i64 a, .int .i64 bo, .int .i64 0, .int .i64 0] 32)
            obtain ⟨n0, n1', n2', n3, _, _, _, _⟩ := hn5.four
            obtain ⟨k0, k1, k2, k3, kz0, kz1, kz2, kz3⟩ := hf5.four
            have HF5 := Lib.hid hf5
            have HN5 := Lib.hid hn5
            have HR5 := Lib.hid hr5
            have HP5 := Lib.hid hp5
            have HB5 := Lib.hid hB5
            have HW5 := Lib.hid hW5
            clear hb5 hf5 hn5 hr5 hp5 hB5 hW5  hnl x0 x1 x2 x3 HPB HFB HNB HB3 HB4 HCA
            by_cases hab : a = 0 ∧ bo = 0
            · obtain ⟨rfl, rfl⟩ := hab
              have HGE2 := Lib.hid (none_succ HGE.out (effF_none HX.out HE2.out HFE.out rfl rfl))
              go_wp2_with fail
              exact ⟨⟨j + 1, by omega, by go_num, HGE2, HW5.out, HB5.out, HP5.out, HR5.out, HN5.out⟩, by simp [intOf]; omega⟩
            · have e : R = (a, bo, (i : Int), (j : Int)) := by
                rw [RK.out, firstS_some hin HG.out (by rw [HKF.out]; exact firstS_some hjn HGE.out (effF_some HX.out HE2.out HFE.out hab))]
                rfl
              have HRE := Lib.hid e
              have hbw : B ≤ w4.heap.size := by omega
              have r7 := HR4.out.alloc (.cells #[.int .i64 a, .int .i64 bo, .int .i64 (i : Int), .int .i64 (j : Int)] 32)
              have hB7 := HBW4.out.alloc hbw (.cells #[.int .i64 a, .int .i64 bo, .int .i64 (i : Int), .int .i64 (j : Int)] 32)
              obtain ⟨rr0, rr1, rr2, rr3, rz0, rz1, rz2, rz3⟩ := r7.four
              obtain ⟨p1, p2⟩ := fault_put (C := B) r7 (by omega) (.int .i64 a) (.int .i64 bo) (.int .i64 (i : Int)) (.int .i64 (j : Int))
              obtain ⟨e0', e1', e2', e3', _, _, _, _⟩ := p1.four
              have HBE := Lib.hid (hB7.trans p2.below)
              have hz : (a == 0 && (bo == 0 && ((0 : Int) == 0 && (0 : Int) == 0))) = false := by
                by_cases ha : a = 0
                · have hb : bo ≠ 0 := fun h => hab ⟨ha, h⟩
                  rw [beq_eq_false_iff_ne.2 hb, Bool.false_and, Bool.and_false]
                · rw [beq_eq_false_iff_ne.2 ha, Bool.false_and]
              have hcmp : ∀ wx, (binOp .neq 32 (.agg #[.int .i64 a, .int .i64 bo, .int .i64 0, .int .i64 0]) (.agg #[.int .i64 0, .int .i64 0, .int .i64 0, .int .i64 0])).run Tryz.prog wx = .ok (.bool true) wx := fun wx => (neq_fault a bo 0 0 0 0 0 0 wx).trans (by rw [hz]; rfl)
              clear hnq hz e r7 hB7 p1 p2 hab HF5 HN5 HR5 HP5 HB5 HW5 HR4 HBW4
              go_wp2_with fail
              exact bodyPost_ret (v := fault4 (a, bo, (i : Int), (j : Int))) (by simp [results, Tryz.results22, go_sem, fault4, e0', e1', e2', e3']) rfl ⟨by rw [HRE.out], by rw [hB]; exact HBE.out⟩
          · have hge : (ne : Int) ≤ j := by omega
            have hg : kndF P i = none := by rw [HKF.out]; exact firstS_none fun t ht => HGE.out t (by omega)
            have HG2 := Lib.hid (none_succ HG.out hg)
            have HB4 := Lib.hid hb4
            have HPB := Lib.hid hpb
            have HFB := Lib.hid hfb
            have HNB := Lib.hid hnb
            clear hg hb3 hb4 hpb hfb hnb
            go_wp2_with fail
            exact ⟨⟨i + 1, by omega, by go_num, HG2, HB4.out, HPB.out, HFB.out, HNB.out⟩, by simp [intOf]; omega⟩
      · have hge : (nk : Int) ≤ i := by omega
        have e : R = (0, 0, 0, 0) := by rw [RK.out, firstS_none fun j hj => HG.out j (by omega)]; rfl
        have HE := Lib.hid e
        obtain ⟨n0, n1, n2, n3, _, _, _, _⟩ := hnb.four
        obtain ⟨rr0, rr1, rr2, rr3, rz0, rz1, rz2, rz3⟩ := hfb.four
        obtain ⟨p1, p2⟩ := fault_put (C := B) hfb (by omega) (.int .i64 0) (.int .i64 0) (.int .i64 0) (.int .i64 0)
        obtain ⟨e0', e1', e2', e3', _, _, _, _⟩ := p1.four
        have HBE := Lib.hid (hbel.trans p2.below)
        clear e hbel hpb hfb hnb p1 p2
        go_wp2_with fail
        exact bodyPost_ret (v := fault4 (0, 0, 0, 0)) (by simp [results, Tryz.results22, go_sem, fault4, e0', e1', e2', e3']) rfl ⟨by rw [HE.out], by rw [hB]; exact HBE.out⟩
end Go.Proofs.YtabpheanbomibaaGreatDoor
