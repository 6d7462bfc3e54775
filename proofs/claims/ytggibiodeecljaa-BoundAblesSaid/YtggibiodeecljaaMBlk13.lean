/- The reference's looker: block. The reference's looker: what lies in memory behind the first lines of stmt and loop; the helpers' contracts over the model's state. The reference's looker: loop. Written by gen_stmt13.py. -/
import Derived.Test.YtggibiodeecljaaMDecl13
import Derived.Test.YtggibiodeecljaaMModel
import Derived.Test.YtggibiodeecljaaMBlock
namespace Go.Proofs.Ytggibiodeecljaa
open Go.RowKit
set_option linter.unusedVariables false
def B13 (B kb tb toff cap : Nat) (ts : List Node) (rec : Nat → LSt → LSt) (i : Nat) : Prop :=
 ∀ (vars : List Vr) (s : LSt) (w : World), (s.bad = false → s.slots.length ≤ 2 + 3 * i) → RL w B kb (.slice (some ⟨tb, toff, none⟩) ts.length cap) vars s → NodesAt w tb toff ts →
  Calls Try.prog 89 #[.pointer (some ⟨kb, 0, none⟩), .int .i64 i] w fun e w' => e = .returned (.tuple #[]) ∧
   RL w' B kb (.slice (some ⟨tb, toff, none⟩) ts.length cap) vars (if s.bad = true then s else rec i s) ∧ Frm B [150, 40, 152] w w'
def S13 (B kb tb toff cap : Nat) (ts : List Node) (rec : Nat → LSt → LSt) (i : Nat) : Prop :=
 ∀ (vars : List Vr) (s : LSt) (w : World), s.bad = false → s.slots.length ≤ 2 + 3 * i → RL w B kb (.slice (some ⟨tb, toff, none⟩) ts.length cap) vars s → NodesAt w tb toff ts →
  Calls Try.prog 139 #[.pointer (some ⟨kb, 0, none⟩), .int .i64 i] w fun e w' => e = .returned (.tuple #[]) ∧
   (∃ ext, RL w' B kb (.slice (some ⟨tb, toff, none⟩) ts.length cap) (vars ++ ext) (rec i s) ∧ (∀ v ∈ ext, (s.slots.length : Int) ≤ v.slot) ∧ ((rec i s).bad = false → ext.map Vr.slot = if (ts.getD i node0).op = 11 then [(ts.getD i node0).n] else [])) ∧
   Frm B [150, 40, 152] w w'
theorem blockLoop_isBad (ts : List Node) (recS : Nat → LSt → LSt) : ∀ (l : List Nat) (own : List Int) (s : LSt), s.bad = true → (blockLoop ts recS l own s).bad = true
 | [], own, s, h => by rw [blockLoop, forgetL_eq]; exact h
 | k :: r, own, s, h => by rw [blockLoop, if_pos h]; exact h
theorem RL.varsCell {w : World} {B kb : Nat} {tv : Value} {vars : List Vr} {s : LSt} (h : RL w B kb tv vars s) : ∃ A c, w.cell? ⟨kb, 2, none⟩ = some (.slice A vars.length c) ∧ w.frozen? ⟨kb, 2, none⟩ = false ∧ vars.length ≤ c ∧ c ≤ maxLen := by
 obtain ⟨sl, h1, _⟩ := h
 exact h1.vars
/-- Behind the statements of a block: what was declared is seen no longer. -/
theorem RL.closed {w : World} {B kb : Nat} {tv : Value} {vars ext : List Vr} {s R : LSt} (h : RL w B kb tv (vars ++ ext) s) {A : Option Addr} {n c : Nat} (hc : w.cell? ⟨kb, 2, none⟩ = some (.slice A n c)) {k : Nat}
  (hv : s.bad = false → ∀ v ∈ vars, v.slot < k) (he : ∀ v ∈ ext, (k : Int) ≤ v.slot) (hb : s.bad = true → R.bad = true) (hR : s.bad = false → R = forgetL (ext.map Vr.slot) s) :
  RL (w.setCell ⟨kb, 2, none⟩ (.slice A vars.length c)) B kb tv vars R ∧ Frm B [150] w (w.setCell ⟨kb, 2, none⟩ (.slice A vars.length c)) := by
 obtain ⟨sl, h1, h2⟩ := h
 obtain ⟨h3, h4⟩ := h1.trunc hc
 refine ⟨?_, h4⟩
 obtain ⟨sls, sn, sb⟩ := s
 cases sb with
 | true => exact RL.isBad h3 (hb rfl)
 | false =>
  obtain ⟨rfl, h5⟩ := h2 rfl
  rw [hR rfl]
  exact RL.of h3 (h5.forget (hv rfl) he)
def Rise (r : Nat → LSt → LSt) : Prop := ∀ i s, s.slots.length ≤ (r i s).slots.length
theorem declareF_rise (slot : Int) (b : Bool) (l : List Int) (s : LSt) : s.slots.length ≤ (declareF slot b l s).slots.length := by
 unfold declareF
 split
 ·exact Nat.le_refl _
 ·split
  ·simp
  ·exact Nat.le_refl _
section
variable (ts : List Node) (recS recB : Nat → LSt → LSt) (hS : Rise recS) (hB : Rise recB)
include hS hB
theorem blocksF_rise : ∀ (l : List Nat) (i : Nat) (s : LSt), s.slots.length ≤ (blocksF ts recS recB i l s).slots.length
 | [], i, s => Nat.le_refl _
 | k :: r, i, s => by
  rw [blocksF]
  refine Nat.le_trans ?_ (blocksF_rise r _ _)
  split
  ·exact Nat.le_refl _
  ·split
   ·exact hS k s
   ·exact hB k s
omit hB in
theorem blockLoop_rise : ∀ (l : List Nat) (own : List Int) (s : LSt), s.slots.length ≤ (blockLoop ts recS l own s).slots.length
 | [], own, s => by rw [blockLoop, foldl_forget_len]; exact Nat.le_refl _
 | k :: r, own, s => by
  rw [blockLoop]
  split
  ·exact Nat.le_refl _
  ·exact Nat.le_trans (hS k s) (blockLoop_rise r _ _)
omit hB in
theorem blockF_rise : Rise (blockF ts recS) := by
 intro i s
 unfold blockF
 simp only
 split
 ·exact blockLoop_rise ts recS hS _ _ _
 ·exact Nat.le_refl _
theorem stmtF_rise : Rise (stmtF ts recS recB) := by
 intro i s
 have hb := blocksF_rise ts recS recB hS hB
 have hd := declareF_rise
 unfold stmtF
 simp only
 split
 ·split
  ·exact hd _ _ _ (highF _ s)
  ·exact Nat.le_refl _
 split
 ·split
  ·exact Nat.le_refl _
  ·exact Nat.le_refl _
 split
 ·split
  ·exact hb _ _ (valueF ts _ _ s)
  ·exact Nat.le_refl _
 split
 ·split
  ·exact Nat.le_trans (hd _ _ _ s) (hb _ _ _)
  ·exact Nat.le_refl _
 split
 ·split
  ·exact Nat.le_trans (hd _ _ _ (valueF ts _ _ s)) (hb _ _ _)
  ·exact Nat.le_refl _
 split
 ·split
  ·split
   ·exact Nat.le_trans (Nat.le_trans (hd _ _ _ (valueF ts _ _ s)) (hb _ _ _)) (hB _ (forget _ _))
   ·exact Nat.le_trans (hd _ _ _ (valueF ts _ _ s)) (hb _ _ _)
  ·exact Nat.le_refl _
 split
 ·exact Nat.le_refl _
 split
 ·split
  ·exact Nat.le_refl _
  ·exact Nat.le_refl _
 ·exact Nat.le_refl _
end
theorem sbM_rise (ts : List Node) : ∀ f, Rise (sbM ts f).1 ∧ Rise (sbM ts f).2
 | 0 => ⟨fun _ _ => Nat.le_refl _, fun _ _ => Nat.le_refl _⟩
 | f + 1 => ⟨stmtF_rise ts _ _ (sbM_rise ts f).1 (sbM_rise ts f).2, blockF_rise ts _ (sbM_rise ts f).1⟩
set_option maxRecDepth 100000 in
set_option maxHeartbeats 3200000 in
theorem block13_any (B kb tb toff cap : Nat) (ts : List Node) (recS : Nat → LSt → LSt) (htb : tb < B) (hl : ts.length ≤ 2000) (hLS : Lens ts recS) (hRS : Rise recS) (i : Nat) (hi : i < ts.length) (hbe : 0 ≤ behind ts i)
  (he : ∀ j ∈ kidsOf ts i, S13 B kb tb toff cap ts recS j) : B13 B kb tb toff cap ts (blockF ts recS) i := by
 intro vars s w hs h hn
 obtain ⟨x, hx⟩ : ∃ x, ts[i]? = some x := ⟨_, List.getElem?_eq_getElem hi⟩
 have hgx : ts.getD i node0 = x := by rw [List.getD_eq_getElem?_getD, hx]; rfl
 have c0 := hn.op hx
 obtain ⟨k0, k3, kf⟩ := h.cells
 obtain ⟨hB, hks⟩ := h.size
 have htw : tb < w.heap.size := by omega
 have hnl : (kidsOf ts i).length ≤ 100000 := kidsOf_le hbe (by omega)
 obtain ⟨sl, hrk, hgood⟩ := h
 have hmu := fun (s : RS) x wx hx => must13_any B kb (.slice (some ⟨tb, toff, none⟩) ts.length cap) s x wx hx
 have hpl := fun (s : RS) wx hx' hn' => plain13_any B kb tb toff cap ts s i x 0 0 0 wx hx' hx hn' (by omega)
 have hki := fun wx (hx' : NodesAt wx tb toff ts) (hl' : tb < wx.heap.size) => kids9_any (some ⟨tb, toff, none⟩) ts cap i wx (by omega) (.inr ⟨tb, toff, rfl, hl', hx'⟩) hi
 obtain ⟨qo, hqo⟩ : ∃ q : Bool, (x.op == 10) = q := ⟨_, rfl⟩
 obtain ⟨ql, hql⟩ : ∃ q : Bool, likeB x 0 0 0 = q := ⟨_, rfl⟩
 simp only [hql] at hpl
 obtain ⟨slots, seen, bad⟩ := s
 simp only at hrk hgood hs k3
 obtain ⟨R, hR⟩ : ∃ R, R = if bad = true then (⟨slots, seen, bad⟩ : LSt) else blockF ts recS i ⟨slots, seen, bad⟩ := ⟨_, rfl⟩
 show Calls _ _ _ w fun e w' => e = .returned (.tuple #[]) ∧ RL w' B kb (.slice (some ⟨tb, toff, none⟩) ts.length cap) vars (if bad = true then (⟨slots, seen, bad⟩ : LSt) else blockF ts recS i ⟨slots, seen, bad⟩) ∧ Frm B [150, 40, 152] w w'
 rw [← hR]
 unfold blockF at hR
 simp only [hgx, hql] at hR
 obtain ⟨b2, hb2⟩ : ∃ b2, b2 = (bad || !qo || !ql) := ⟨_, rfl⟩
 have HN := Lh hn
 have HX := Lh hx
 have HE := Lh he
 have HRK := Lh hrk
 have HGD := Lh hgood
 have HMU := Lh hmu
 have HPL := Lh hpl
 have HKI := Lh hki
 have HLS := Lh hLS
 have HRS := Lh hRS
 have HS := Lh hs
 have HBE := Lh hbe
 have HR := Lh hR
 have HB2 := Lh hb2
 have HNL := Lh hnl
 clear hn hx hgx he hrk hgood hmu hpl hki hLS hRS hs hbe hR hb2 hql hnl
 go_enter Try.func89, Try.ntmps89
 go_wp2_with fail
 refine (HMU.out ⟨sl, vars, bad⟩ qo _ HRK.out).mono ?_
 rintro e w1 ⟨rfl, h1, f1⟩
 have HQO := Lh hqo
 have H1 := Lh h1
 have F1 := Lh f1
 have N1 := Lh (f1.nodes HN.out htb)
 clear h1 f1 hqo
 go_wp2_with fail
 refine (HPL.out _ _ H1.out N1.out).mono ?_
 rintro e w2 ⟨rfl, h2, f2⟩
 have h2b : RK w2 B kb (.slice (some ⟨tb, toff, none⟩) ts.length cap) ⟨sl, vars, b2⟩ := h2.same (by rw [HB2.out]; rfl)
 have F2 := Lh (F1.out.trans f2)
 have N2 := Lh (f2.nodes N1.out htb)
 obtain ⟨k02, k32, kf2⟩ := h2b.cells
 obtain ⟨A2, cv, kv2, kw2, hcv, hcm⟩ := h2b.vars
 have hz2 := F2.out.size
 simp only at k32 kv2 hcv
 have H2 := Lh h2b
 clear h2 f2 h2b
 cases b2 with
 | true =>
  go_wp2_with fail
  refine bodyPost_ret (results_none rfl _ _ _) rfl ?_
  refine ⟨rfl, RL.isBad H2.out ?_, F2.out.more (by simp)⟩
  have h1 := HB2.out
  have h2 := HQO.out
  rw [HR.out]
  cases bad with
  | true => rfl
  | false =>
   rw [if_neg (by decide), if_neg ?_]
   ·rfl
   ·rintro ⟨g1, g2⟩
    rw [g2] at h1
    rw [← h2, beq_true_of g1] at h1
    cases h1
 | false =>
  obtain ⟨rfl, rfl, rfl⟩ : bad = false ∧ qo = true ∧ ql = true := by
   have := HB2.out
   cases bad <;> cases qo <;> cases ql <;> simp at this ⊢
  obtain ⟨rfl, hI⟩ := HGD.out rfl
  have hR2 : R = blockLoop ts recS (kidsOf ts i) [] ⟨sl, seen, false⟩ := by
   rw [HR.out, if_neg (by decide), if_pos ⟨by simpa using HQO.out, rfl⟩]
  obtain ⟨n, hnk⟩ : ∃ n, (kidsOf ts i).length = n := ⟨_, rfl⟩
  obtain ⟨nv, hnv⟩ : ∃ nv, vars.length = nv := ⟨_, rfl⟩
  have hnl := HNL.out
  rw [hnk] at hnl
  rw [hnv] at kv2 hcv
  have HR2 := Lh hR2
  have HI := Lh hI
  have HK := Lh hnk
  have HNV := Lh hnv
  clear hR2 hI hnk hnv
  go_wp2_with fail
  refine (HKI.out _ N2.out (by omega)).mono ?_
  rintro e w3 ⟨kv, rfl, hown, hbel⟩
  rw [HK.out] at hown
  obtain ⟨A, c, rfl⟩ := own_form hown
  have h3 := H2.out.below hbel
  have f3 : Frm B [150, 40, 152] w w3 := (F2.out.more (by simp)).trans (Frm.of_below hbel (by omega))
  have hz3 := f3.size
  have HOW := Lh hown
  have F3 := Lh f3
  have H3 := Lh (RL.of h3 HI.out)
  clear hown h3 f3 hbel
  go_wp2_with fail
  go_loopw [6] (fun iv wr => ∃ (k p' : Nat) (own : List Int) (ext : List Vr) (s' : LSt), k ≤ n ∧ iv = .int .i64 k ∧ Hid (R = blockLoop ts recS ((kidsOf ts i).drop k) own s') ∧ Hid (Chain ts p' (behind ts i).toNat ((kidsOf ts i).drop k)) ∧ Hid (s'.bad = false → s'.slots.length ≤ 2 + 3 * p') ∧ Hid (s'.bad = false → own = ext.map Vr.slot) ∧ Hid (∀ v ∈ ext, (sl.length : Int) ≤ v.slot) ∧ Hid (s'.bad = false → sl.length ≤ s'.slots.length) ∧
    RL wr B kb (.slice (some ⟨tb, toff, none⟩) ts.length cap) (vars ++ ext) s' ∧ Frm B [150, 40, 152] w3 wr)
   (fun iv _ => n - (intOf iv).toNat)
  case atStart => exact ⟨0, i + 1, [], [], ⟨sl, seen, false⟩, by omega, rfl, HR2, kidsOf_chain HBE.out, fun _ => by have := HS.out (by trivial); simp only at this ⊢; omega, fun _ => rfl, fun v hv => by simp at hv, fun _ => Nat.le_refl _, by rw [List.append_nil]; exact H3.out, Frm.refl _ _ _⟩
  case round =>
   obtain ⟨k, p', own, ext, s', hk, rfl, HR', HC', HS', HO', HE', HL', hrl, hfr⟩ := hrel
   have hzr := hfr.size
   obtain ⟨kr0, kr3, krf⟩ := hrl.cells
   obtain ⟨Av, cv', kv', kw', hcv', hcm'⟩ := hrl.varsCell
   obtain ⟨ne, hne⟩ : ∃ ne, (vars ++ ext).length = ne := ⟨_, rfl⟩
   have hnve : nv ≤ ne := by rw [← hne, List.length_append, HNV.out]; omega
   rw [hne] at kv' hcv'
   have HNE := Lh hne
   have HRL := Lh hrl
   have HFR := Lh (F3.out.trans hfr)
   have HF := Lh hfr
   clear hne hrl hfr
   have hfin : (s'.bad = true ∨ (kidsOf ts i).drop k = []) → RL (wr.setCell ⟨kb, 2, none⟩ (.slice Av nv cv')) B kb (.slice (some ⟨tb, toff, none⟩) ts.length cap) vars R ∧ Frm B [150] wr (wr.setCell ⟨kb, 2, none⟩ (.slice Av nv cv')) := by
    intro hd
    have := HRL.out.closed (R := R) kv' (k := sl.length) (fun _ v hv => (HI.out.lt v hv).2) HE'.out (fun hb => by rw [HR'.out]; exact blockLoop_isBad ts recS _ _ _ hb) (fun hb => by
     rcases hd with hd | hd
     ·rw [hb] at hd; cases hd
     ·rw [HR'.out, hd, blockLoop, forgetL_eq, HO'.out hb])
    rw [HNV.out] at this
    exact this
   have HFin := Lh hfin
   clear hfin
   by_cases hlt : k < n
   ·cases hbb : s'.bad with
    | true =>
     rw [hbb] at kr3
     have HBB := Lh hbb
     clear hbb
     have hd : decide ((k : Int) < n) = true := decide_eq_true (by omega)
     go_wp2_with fail
     go_end0
     obtain ⟨g1, g2⟩ := HFin.out (.inl HBB.out)
     exact ⟨rfl, g1, HFR.out.trans (g2.more (by simp))⟩
    | false =>
     rw [hbb] at kr3
     have HBB := Lh hbb
     clear hbb
     obtain ⟨j, hj⟩ : ∃ j, (kidsOf ts i)[k]? = some j := ⟨_, List.getElem?_eq_getElem (by rw [HK.out]; exact hlt)⟩
     have hes := HE.out j (List.mem_of_getElem? hj)
     have hdrop : (kidsOf ts i).drop k = j :: (kidsOf ts i).drop (k + 1) := by
      obtain ⟨h2, h3⟩ := List.getElem?_eq_some_iff.1 hj
      rw [List.drop_eq_getElem_cons h2, h3]
     have hKJ : ((kidsOf ts i).map (fun j : Nat => (j : Int)))[k]? = some (j : Int) := by rw [List.getElem?_map, hj]; rfl
     obtain ⟨kb3, ko3, ke3, kl3, kc3⟩ := (own_ints (HF.out.own HOW.out (by decide))).1 k _ hKJ
     subst ke3
     have hR1 := HR'.out
     rw [hdrop, blockLoop, if_neg (by rw [HBB.out]; decide)] at hR1
     have hC1 := HC'.out
     rw [hdrop] at hC1
     obtain ⟨rfl, g1, g2, g3⟩ := hC1
     have hs1 := HS'.out HBB.out
     have hln := HLS.out _ _ g1 g2 hs1
     have hes1 := hes (vars ++ ext) s' wr HBB.out hs1 HRL.out (HFR.out.nodes HN.out htb)
     have HES := Lh hes1
     have HR1 := Lh hR1
     have HC1 := Lh g3
     have HLN := Lh hln
     clear hes hdrop hKJ hR1 g3 hes1 hj hln
     go_wp2_with fail
     refine HES.out.mono ?_
     rintro e w4 ⟨rfl, ⟨ex, h4, h5, h6⟩, f4⟩
     have H4 := Lh h4
     have H5 := Lh h5
     have H6 := Lh h6
     have F4 := Lh (HF.out.trans f4)
     clear h4 h5 h6 f4
     go_wp2_with fail
     go_roundw
     case rel =>
      have hle := HL'.out HBB.out
      refine ⟨k + 1, _, _, ext ++ ex, _, by omega, by go_num, HR1, HC1, fun _ => HLN.out, ?_, ?_, ?_, by rw [← List.append_assoc]; exact H4.out, F4.out⟩
      ·intro hb
       rw [List.map_append, ← HO'.out HBB.out, H6.out hb]
       split <;> simp
      ·intro v hv
       rcases List.mem_append.1 hv with hv | hv
       ·exact HE'.out v hv
       ·have := H5.out v hv; omega
      ·intro hb
       exact Nat.le_trans hle (HRS.out _ s')
     case measure => (simp [intOf]; try omega)
   ·have hd : decide ((k : Int) < n) = false := decide_eq_false (by omega)
    have hkn : (kidsOf ts i).drop k = [] := List.drop_of_length_le (by rw [HK.out]; omega)
    have HKN := Lh hkn
    clear hkn
    go_wp2_with fail
    go_end0
    obtain ⟨g1, g2⟩ := HFin.out (.inr HKN.out)
    exact ⟨rfl, g1, HFR.out.trans (g2.more (by simp))⟩
end Go.Proofs.Ytggibiodeecljaa
namespace Go.Proofs.Ytggibiodeecljaa
open Go.RowKit
set_option linter.unusedVariables false
section
variable (B kb : Nat) (tv : Value) (vars : List Vr) (s : LSt) (w : World)
theorem must13_yes (h : RL w B kb tv vars s) :
  Calls Try.prog 137 #[.pointer (some ⟨kb, 0, none⟩), .bool true] w fun e w' => e = .returned (.tuple #[]) ∧ RL w' B kb tv vars s ∧ Frm B [150] w w' := by
 obtain ⟨sl, h1, h2⟩ := h
 refine (must13_any B kb tv _ true w h1).mono ?_
 rintro e w1 ⟨rfl, g1, f1⟩
 exact ⟨rfl, ⟨sl, g1.same (RS.must_true _), h2⟩, f1⟩
theorem must13_no (q : Bool) (h : RL w B kb tv vars s) (hq : q = false ∨ s.bad = true) :
  Calls Try.prog 137 #[.pointer (some ⟨kb, 0, none⟩), .bool q] w fun e w' => e = .returned (.tuple #[]) ∧ RL w' B kb tv vars (badF s) ∧ Frm B [150] w w' := by
 obtain ⟨sl, h1, h2⟩ := h
 refine (must13_any B kb tv _ q w h1).mono ?_
 rintro e w1 ⟨rfl, g1, f1⟩
 refine ⟨rfl, RL.isBad (sl := sl) (g1.same ?_) rfl, f1⟩
 rcases hq with rfl | hq
 ·simp [RS.must]
 ·simp [RS.must, hq]
end
section
variable (B kb tb toff cap : Nat) (ts : List Node) (s : LSt) (vars : List Vr) (i : Nat) (x : Node) (kind n m : Int) (w : World)
theorem plain13_yes (hli : likeB x kind n m = true) (h : RL w B kb (.slice (some ⟨tb, toff, none⟩) ts.length cap) vars s) (hx : ts[i]? = some x) (hn : NodesAt w tb toff ts) (hlt : ts.length ≤ 2000) :
  Calls Try.prog 138 #[.pointer (some ⟨kb, 0, none⟩), .int .i64 i, .int .i8 kind, .int .i64 n, .int .i64 m] w fun e w' => e = .returned (.tuple #[]) ∧ RL w' B kb (.slice (some ⟨tb, toff, none⟩) ts.length cap) vars s ∧ Frm B [150] w w' := by
 obtain ⟨sl, h1, h2⟩ := h
 refine (plain13_any B kb tb toff cap ts _ i x kind n m w h1 hx hn (by omega)).mono ?_
 rintro e w1 ⟨rfl, g1, f1⟩
 rw [hli, RS.must_true] at g1
 exact ⟨rfl, ⟨sl, g1, h2⟩, f1⟩
theorem plain13_no (hli : likeB x kind n m = false ∨ s.bad = true) (h : RL w B kb (.slice (some ⟨tb, toff, none⟩) ts.length cap) vars s) (hx : ts[i]? = some x) (hn : NodesAt w tb toff ts) (hlt : ts.length ≤ 2000) :
  Calls Try.prog 138 #[.pointer (some ⟨kb, 0, none⟩), .int .i64 i, .int .i8 kind, .int .i64 n, .int .i64 m] w fun e w' => e = .returned (.tuple #[]) ∧ RL w' B kb (.slice (some ⟨tb, toff, none⟩) ts.length cap) vars (badF s) ∧ Frm B [150] w w' := by
 obtain ⟨sl, h1, h2⟩ := h
 refine (plain13_any B kb tb toff cap ts _ i x kind n m w h1 hx hn (by omega)).mono ?_
 rintro e w1 ⟨rfl, g1, f1⟩
 refine ⟨rfl, RL.isBad (sl := sl) (g1.same ?_) rfl, f1⟩
 rcases hli with hli | hli
 ·simp [RS.must, hli]
 ·simp [RS.must, hli]
end
structure St13 (B kb tb toff cap : Nat) (ts : List Node) (i : Nat) (x : Node) (bn base n c : Nat) (A : Option Addr) (w0 : World) (vars : List Vr) (s : LSt) (w : World) : Prop where
 rl : RL w B kb (.slice (some ⟨tb, toff, none⟩) ts.length cap) vars s
 fr : Frm B [150, 40, 152] w0 w
 tbB : tb < B
 nodes : NodesAt w tb toff ts
 nb : Blk w bn 42 #[.int .i8 x.op, .int .i8 x.kind, .int .i64 x.n, .int .i64 x.m, .string x.text, .int .i64 x.pos, .int .i64 x.kids]
 own : w.ownsRow base 3 1 (.slice A n c) n (intVals ((kidsOf ts i).map fun j : Nat => (j : Int)))
section
variable {B kb tb toff cap : Nat} {ts : List Node} {i : Nat} {x : Node} {bn base n c : Nat} {A : Option Addr} {w0 w w' : World} {vars vars' : List Vr} {s s' : LSt}
theorem St13.start (h : RL w B kb (.slice (some ⟨tb, toff, none⟩) ts.length cap) vars s) (hn : NodesAt w tb toff ts) (htb : tb < B) {v : Value}
  (hown : w'.ownsRow (w.alloc (.cells #[.int .i8 x.op, .int .i8 x.kind, .int .i64 x.n, .int .i64 x.m, .string x.text, .int .i64 x.pos, .int .i64 x.kids] 42)).heap.size 3 1 v (kidsOf ts i).length (intVals ((kidsOf ts i).map fun j : Nat => (j : Int))))
  (hb : Below (w.alloc (.cells #[.int .i8 x.op, .int .i8 x.kind, .int .i64 x.n, .int .i64 x.m, .string x.text, .int .i64 x.pos, .int .i64 x.kids] 42)).heap.size (w.alloc (.cells #[.int .i8 x.op, .int .i8 x.kind, .int .i64 x.n, .int .i64 x.m, .string x.text, .int .i64 x.pos, .int .i64 x.kids] 42)) w') :
  ∃ A c base, v = .slice A (kidsOf ts i).length c ∧ St13 B kb tb toff cap ts i x w.heap.size base (kidsOf ts i).length c A w vars s w' := by
 obtain ⟨A, c, rfl⟩ := own_form hown
 obtain ⟨h1, h2⟩ := h.size
 have f1 : Frm B [150, 40, 152] w w' := ((Frm.refl _ _ _).alloc (by omega) _).trans (Frm.of_below hb (by simp; omega))
 exact ⟨A, c, _, rfl, (h.alloc _).below hb, f1, htb, f1.nodes hn htb, (Blk.new w _ _).below hb (by simp), hown⟩
theorem St13.step (h : St13 B kb tb toff cap ts i x bn base n c A w0 vars s w) {T : List TypeId} (hT : ∀ t ∈ T, t = 150 ∨ t = 40 ∨ t = 152) (hl : RL w' B kb (.slice (some ⟨tb, toff, none⟩) ts.length cap) vars' s') (hf : Frm B T w w') :
  St13 B kb tb toff cap ts i x bn base n c A w0 vars' s' w' := by
 have hf2 : Frm B [150, 40, 152] w w' := hf.more (fun t ht => by simpa using hT t ht)
 exact ⟨hl, h.fr.trans hf2, h.tbB, hf2.nodes h.nodes h.tbB, hf2.blk h.nb (by decide), hf2.own h.own (by decide)⟩
theorem St13.alloc (h : St13 B kb tb toff cap ts i x bn base n c A w0 vars s w) (o : Obj) : St13 B kb tb toff cap ts i x bn base n c A w0 vars s (w.alloc o) := by
 have h1 := h.rl.size
 have hf : Frm B [] w (w.alloc o) := (Frm.refl _ _ _).alloc (by omega) _
 exact h.step (by simp) (h.rl.alloc o) hf
theorem St13.drew (h : St13 B kb tb toff cap ts i x bn base n c A w0 vars s w) : St13 B kb tb toff cap ts i x bn base n c A w0 vars s w.drew := by
 obtain ⟨sl, h1, h2⟩ := h.rl
 exact h.step (T := []) (by simp) ⟨sl, h1.drew, h2⟩ (Frm.refl _ _ _).drew
theorem St13.cells (h : St13 B kb tb toff cap ts i x bn base n c A w0 vars s w) : w.cell? ⟨kb, 0, none⟩ = some (.slice (some ⟨tb, toff, none⟩) ts.length cap) ∧ w.cell? ⟨kb, 3, none⟩ = some (.bool s.bad) ∧ w.frozen? ⟨kb, 3, none⟩ = false ∧
  w.cell? ⟨bn, 0, none⟩ = some (.int .i8 x.op) ∧ w.cell? ⟨bn, 2, none⟩ = some (.int .i64 x.n) ∧ w.cell? ⟨bn, 3, none⟩ = some (.int .i64 x.m) := by
 obtain ⟨h1, h2, h3⟩ := h.rl.cells
 exact ⟨h1, h2, h3, h.nb.cell 0, h.nb.cell 2, h.nb.cell 3⟩
theorem St13.form (h : St13 B kb tb toff cap ts i x bn base n c A w0 vars s w) (h0 : 0 < n) : ∃ g, A = some ⟨g, 0, none⟩ := by
 rcases h.own.2 with ⟨h1, h2⟩ | ⟨g, cp, cu, h1, _⟩
 ·omega
 ·injection h1 with h1 _ _
  exact ⟨g, h1⟩
theorem St13.kid {g : Nat} (h : St13 B kb tb toff cap ts i x bn base n c (some ⟨g, 0, none⟩) w0 vars s w) (k j : Nat) (hj : (kidsOf ts i)[k]? = some j) : w.cell? ⟨g, k, none⟩ = some (.int .i64 j) := by
 have hKJ : ((kidsOf ts i).map (fun j : Nat => (j : Int)))[k]? = some (j : Int) := by rw [List.getElem?_map, hj]; rfl
 obtain ⟨b, o, e, _, hc⟩ := (own_ints h.own).1 k _ hKJ
 have hlen : (intVals ((kidsOf ts i).map fun j : Nat => (j : Int)))[k]? = some (.int .i64 j) := by rw [intVals, List.getElem?_map, hKJ]; rfl
 have h1 := h.own.1
 rw [h.own.cellAt k (by have := (List.getElem?_eq_some_iff.1 hlen).1; rw [h1] at this; exact this), hlen]
end
theorem St13.kidNe {B kb tb toff cap : Nat} {ts : List Node} {i : Nat} {x : Node} {bn base n c g : Nat} {w0 w : World} {vars : List Vr} {s : LSt} (h : St13 B kb tb toff cap ts i x bn base n c (some ⟨g, 0, none⟩) w0 vars s w) : g ≠ kb := by
 obtain ⟨sl, ⟨sv, vv, h1, h3, h4, h5⟩, _⟩ := h.rl
 have := own_blk_ne h.own h3 (by decide)
 intro e
 exact this (by rw [← e]; rfl)
section
variable (B kb tb toff cap : Nat) (ts : List Node) (i : Nat) (x : Node) (vars : List Vr) (s : LSt) (w : World) (h : RL w B kb (.slice (some ⟨tb, toff, none⟩) ts.length cap) vars s) (hn : NodesAt w tb toff ts)
include h hn
/-- The kids' call, the node's copy laid ahead of it. -/
theorem kids13_start (htb : tb < B) (hi : i < ts.length) (hl : ts.length ≤ 2000) :
  Calls Try.prog 90 #[.slice (some ⟨tb, toff, none⟩) ts.length cap, .int .i64 i] (w.alloc (.cells #[.int .i8 x.op, .int .i8 x.kind, .int .i64 x.n, .int .i64 x.m, .string x.text, .int .i64 x.pos, .int .i64 x.kids] 42)) fun e w1 =>
   ∃ A c base, e = .returned (.slice A (kidsOf ts i).length c) ∧ St13 B kb tb toff cap ts i x w.heap.size base (kidsOf ts i).length c A w vars s w1 := by
 obtain ⟨h1, h2⟩ := h.size
 have f1 : Frm B [150] w (w.alloc (.cells #[.int .i8 x.op, .int .i8 x.kind, .int .i64 x.n, .int .i64 x.m, .string x.text, .int .i64 x.pos, .int .i64 x.kids] 42)) := (Frm.refl _ _ _).alloc (by omega) _
 refine (kids9_any (some ⟨tb, toff, none⟩) ts cap i _ (by omega) (.inr ⟨tb, toff, rfl, by simp; omega, f1.nodes hn htb⟩) hi).mono ?_
 rintro e w1 ⟨v, rfl, hown, hb⟩
 obtain ⟨A, c, base, rfl, hst⟩ := St13.start (x := x) h hn htb hown hb
 exact ⟨A, c, base, rfl, hst⟩
end
end Go.Proofs.Ytggibiodeecljaa
namespace Go.Proofs.Ytggibiodeecljaa
open Go.RowKit
set_option linter.unusedVariables false
theorem extF_bad {slot : Int} {b : Bool} {l : List Int} {s : LSt} (h : (declareF slot b l s).bad = true) : extF slot b l s = [] := by
 unfold extF
 rw [if_neg]
 rintro ⟨h1, h2⟩
 unfold declareF at h
 rw [if_neg (by rw [h1]; decide), if_pos h2] at h
 cases h
theorem extF_ge {slot : Int} {b : Bool} {l : List Int} {s : LSt} {v : Vr} (h : v ∈ extF slot b l s) : (s.slots.length : Int) ≤ v.slot := by
 unfold extF at h
 split at h
 ·simp only [List.mem_singleton] at h
  subst h
  exact Int.le_refl _
 ·simp at h
theorem extF_map {slot : Int} {b : Bool} {l : List Int} {s : LSt} (h : (declareF slot b l s).bad = false) : (extF slot b l s).map Vr.slot = [slot] := by
 unfold declareF at h
 unfold extF
 split at h
 ·rename_i h1
  rw [h1] at h
  cases h
 ·rename_i h1
  split at h
  ·rename_i h2
   rw [if_pos ⟨by simpa using h1, h2⟩, h2]
   rfl
  ·cases h
theorem RL.toBad {w : World} {B kb : Nat} {tv : Value} {vars : List Vr} {s s' : LSt} (h : RL w B kb tv vars s) (hb : s.bad = true) (hb' : s'.bad = true) : RL w B kb tv vars s' := by
 obtain ⟨sl, h1, _⟩ := h
 rw [hb] at h1
 exact RL.isBad h1 hb'
section
variable (B kb tb toff cap : Nat) (ts : List Node) (htb : tb < B) (hl : ts.length ≤ 2000) (htxt : ∀ y ∈ ts, y.text.size ≤ 1099511627776) (i : Nat) (x : Node) (hi : i < ts.length) (hbe : 0 ≤ behind ts i) (hx : ts[i]? = some x) (vars : List Vr) (slots : List Int) (seen : Int → Option Value) (w : World) (hs : slots.length ≤ 2 + 3 * i) (h : RL w B kb (.slice (some ⟨tb, toff, none⟩) ts.length cap) vars ⟨slots, seen, false⟩) (hn : NodesAt w tb toff ts)
include htb hl htxt hi hbe hx hs h hn
set_option maxRecDepth 100000 in
set_option maxHeartbeats 2000000 in
theorem loop_repeat (hop : x.op = 14) (hr1 : 0 ≤ x.n) (hr2 : x.n ≤ 255) (hli : likeB x 0 x.n x.m = true) (j : Nat) (hj : kidsOf ts i = [j]) (recS recB : Nat → LSt → LSt) (hB13 : ∀ j ∈ kidsOf ts i, B13 B kb tb toff cap ts recB j) :
  Calls Try.prog 170 #[.pointer (some ⟨kb, 0, none⟩), .int .i64 i] w fun e w' => e = .returned (.tuple #[]) ∧ (RL w' B kb (.slice (some ⟨tb, toff, none⟩) ts.length cap) vars (forget x.m (blocksF ts recS recB 0 [j] (declareF x.m false [1] ⟨slots, seen, false⟩)))) ∧ Frm B [150, 40, 152] w w' := by
 have hj0 := hj
 have h0 := h
 obtain ⟨c0, c1, c2, c3, c4, c5, c6⟩ := hn.all hx
 obtain ⟨k0, k3, kf⟩ := h.cells
 simp only at k3
 obtain ⟨hB, hks⟩ := h.size
 have hki := kids13_start B kb tb toff cap ts i x vars ⟨slots, seen, false⟩ w h hn htb hi hl
 have hnk : (kidsOf ts i).length = 1 := by rw [hj]; rfl
 rw [hnk] at hki
 have HJ0 : Hid ((kidsOf ts i)[0]? = some j) := by rw [hj]; rfl
 have hko0 := kidsOf_ok (ts := ts) (i := i) (j := j) (by rw [hj]; simp)
 have HKO0 := Lh hko0
 clear hko0
 have HKI := Lh hki
 have HNK := Lh hnk
 have HX := Lh hx
 have HS := Lh hs
 have HBE := Lh hbe
 have HT := Lh htxt
 have H := Lh h
 have HJ := Lh hj
 clear hj
 have hop2 := hop
 have q14 : (x.op == 14) = true := beq_true_of hop
 clear hop hop2
 have HLI := Lh hli
 clear hli
 have HEB := Lh (hB13 j (by rw [hj0]; simp))
 have HI := Lh h0.good.2
 have HDL : Hid ((declareF x.m false [1] ⟨slots, seen, false⟩).slots.length ≤ slots.length + 1) := Lh (declareF_len x.m false [1] ⟨slots, seen, false⟩)
 obtain ⟨R, hR⟩ : ∃ R, R = forget x.m (blocksF ts recS recB 0 [j] (declareF x.m false [1] ⟨slots, seen, false⟩)) := ⟨_, rfl⟩
 rw [← hR]
 have hR2 : R = forget x.m (if (declareF x.m false [1] ⟨slots, seen, false⟩).bad = true then declareF x.m false [1] ⟨slots, seen, false⟩ else recB j (declareF x.m false [1] ⟨slots, seen, false⟩)) := by
  rw [hR, blocksF, blocksF]
  split
  ·rfl
  ·rw [if_neg (by rintro ⟨h, _⟩; cases h)]
 have HR := Lh hR2
 have HRB : Hid ((declareF x.m false [1] ⟨slots, seen, false⟩).bad = true → (forget x.m (if (declareF x.m false [1] ⟨slots, seen, false⟩).bad = true then declareF x.m false [1] ⟨slots, seen, false⟩ else recB j (declareF x.m false [1] ⟨slots, seen, false⟩))).bad = true) := fun hb => by rw [if_pos hb]; exact hb
 clear hR hR2 hB13 hj0 h0
 clear h hn hki hx hs hbe htxt hnk
 go_enter Try.func170, Try.ntmps170
 go_wp2_with fail
 refine HKI.out.mono ?_
 rintro e w1 ⟨A, c, base, rfl, C1⟩
 obtain ⟨gk, rfl⟩ := C1.form (by decide)
 obtain ⟨e0, e3, ef, d0, d2, d3⟩ := C1.cells
 obtain ⟨Av1, cv1, kv1, kw1, hcv1, hcm1⟩ := C1.rl.varsCell
 have g0 := C1.kid 0 j HJ0.out
 have CC1 := Lh C1
 have hz1 := C1.rl.size
 clear C1
 go_wp2_with fail
 refine (must13_yes B kb _ vars ⟨slots, seen, false⟩ _ (CC1.out).rl).mono ?_
 rintro e w2 ⟨rfl, h2, f2⟩
 have CC2 := Lh ((CC1.out).step (by simp) h2 f2)
 clear h2 f2 e0 e3 ef d0 d2 d3
 obtain ⟨e0, e3, ef, d0, d2, d3⟩ := CC2.out.cells
 clear g0
 have g0 := CC2.out.kid 0 j HJ0.out
 go_wp2_with fail
 refine (plain13_yes B kb tb toff cap ts ⟨slots, seen, false⟩ vars i x 0 x.n x.m _ HLI.out (CC2.out).rl HX.out (CC2.out).nodes hl).mono ?_
 rintro e w3 ⟨rfl, h3, f3⟩
 have CC3 := Lh ((CC2.out).step (by simp) h3 f3)
 clear h3 f3 e0 e3 ef d0 d2 d3
 obtain ⟨e0, e3, ef, d0, d2, d3⟩ := CC3.out.cells
 clear g0
 have g0 := CC3.out.kid 0 j HJ0.out
 go_wp2_with fail
 refine (declare13_any B kb x.m false [1] w3.heap.size 1 ⟨slots, seen, false⟩ vars _ _ (Nat.le_trans HS.out (by omega)) (by simp) (by simp) ((CC3.out).alloc _).rl (Blk.new w3 40 #[.int .i8 1]) (by simp)).mono ?_
 rintro e w4 ⟨rfl, h4, f4⟩
 have CC4 := Lh (((CC3.out).alloc _).step (by simp) h4 f4)
 clear h4 f4 e0 e3 ef d0 d2 d3
 obtain ⟨e0, e3, ef, d0, d2, d3⟩ := CC4.out.cells
 clear g0
 have g0 := CC4.out.kid 0 j HJ0.out
 cases hdb : (declareF x.m false [1] ⟨slots, seen, false⟩).bad with
 | true =>
  rw [hdb] at e3
  have HDB := Lh hdb
  clear hdb
  go_wp2_with fail
  refine bodyPost_ret (results_none rfl _ _ _) rfl ?_
  refine ⟨rfl, ?_, CC4.out.fr⟩
  have hr := CC4.out.rl
  rw [extF_bad HDB.out, List.append_nil] at hr
  refine hr.toBad HDB.out ?_
  rw [HR.out]
  exact HRB.out HDB.out
 | false =>
  rw [hdb] at e3
  have HDB := Lh hdb
  clear hdb
  go_wp2_with fail
  refine (HEB.out (vars ++ (extF x.m false [1] ⟨slots, seen, false⟩)) (declareF x.m false [1] ⟨slots, seen, false⟩) _ (fun _ => by have := HDL.out; have := HS.out; have := HKO0.out.1; omega) CC4.out.rl CC4.out.nodes).mono ?_
  rintro e w5 ⟨rfl, h5, f5⟩
  have CC5 := Lh ((CC4.out).step (by simp) h5 f5)
  clear h5 f5 e0 e3 ef d0 d2 d3
  obtain ⟨e0, e3, ef, d0, d2, d3⟩ := CC5.out.cells
  obtain ⟨Av2, cv2, kv2, kw2, hcv2, hcm2⟩ := CC5.out.rl.varsCell
  have hclo := CC5.out.rl.closed (R := R) kv2 (k := slots.length) (fun _ v hv => ((HI.out.lt v hv)).2) (fun v hv => extF_ge hv) (fun hb => by rw [HR.out]; exact hb) (fun hb => by rw [HR.out, forget_eq, extF_map HDB.out])
  have HCLO := Lh hclo
  obtain ⟨ne, hne⟩ : ∃ ne, (vars ++ (extF x.m false [1] ⟨slots, seen, false⟩)).length = ne := ⟨_, rfl⟩
  have hnve : vars.length ≤ ne := by rw [← hne, List.length_append]; omega
  rw [hne] at kv2 hcv2
  have HNE := Lh hne
  clear hclo hne
  clear g0
  have g0 := CC5.out.kid 0 j HJ0.out
  go_wp2_with fail
  go_end0
  obtain ⟨g1, g2⟩ := HCLO.out
  exact ⟨rfl, g1, CC5.out.fr.trans (g2.more (by simp))⟩
end
end Go.Proofs.Ytggibiodeecljaa
