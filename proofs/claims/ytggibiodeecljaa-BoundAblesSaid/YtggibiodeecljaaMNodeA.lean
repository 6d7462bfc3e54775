/- The reference's cost of a node, its kids' costs known. Written by gen_node18.py. The reference's cost of a node, its kids' costs known. Written by gen_node18.py. -/
import Derived.Test.YtggibiodeecljaaMTree9
import Derived.Deep.QuietTactic
import Derived.BigQuiet
namespace Go.Proofs.Ytggibiodeecljaa
open Go.RowKit
set_option linter.unusedVariables false
set_option maxRecDepth 100000 in
set_option maxHeartbeats 3200000 in
theorem node18_a (tb toff cap : Nat) (ts : List Node) (i : Nat) (x : Node) (c : Int) (rec : Nat → Int) (w : World) (hl : ts.length ≤ 2000) (hi : i < ts.length) (hbe : 0 ≤ behind ts i) (hx : ts[i]? = some x) (htb : tb < w.heap.size) (hn : NodesAt w tb toff ts)
  (h0 : 1 ≤ c) (h1 : c ≤ 256) (ha : arityB x (kidsOf ts i).length = true)
  (hr : ∀ j ∈ kidsOf ts i, ∀ wx, tb < wx.heap.size → NodesAt wx tb toff ts → Calls Try.prog 50 #[.slice (some ⟨tb, toff, none⟩) ts.length cap, .int .i64 j, .int .i64 c] wx fun e w' => e = .returned (.int .i64 (rec j)) ∧ Below wx.heap.size wx w')
  (hg : ∀ j ∈ kidsOf ts i, IsGas (rec j)) (hop : x.op = 10 ∨ x.op = 11 ∨ x.op = 12 ∨ x.op = 13) :
  Calls Try.prog 50 #[.slice (some ⟨tb, toff, none⟩) ts.length cap, .int .i64 i, .int .i64 c] w fun e w' => e = .returned (.int .i64 (gasR x ((kidsOf ts i).map rec) c)) ∧ Below w.heap.size w w' := by
 obtain ⟨l, hl0⟩ : ∃ l, l = (kidsOf ts i).map rec := ⟨_, rfl⟩
 have hlg : ∀ y ∈ l, IsGas y := fun y hy => by
  rw [hl0] at hy
  obtain ⟨j, hj, rfl⟩ := List.mem_map.1 hy
  exact hg j hj
 have hla : ∀ k j, (kidsOf ts i)[k]? = some j → l[k]? = some (rec j) := fun k j h => by rw [hl0, List.getElem?_map, h]; rfl
 obtain ⟨K, hK⟩ : ∃ K, (kidsOf ts i).length = K := ⟨_, rfl⟩
 have hlk : l.length = K := by rw [hl0, List.length_map, hK]
 rw [← hl0]
 rw [hK] at ha
 obtain ⟨R, hR⟩ : ∃ R, R = gasR x l c := ⟨_, rfl⟩
 rw [← hR]
 have hK9 : K ≤ 100000 := by rw [← hK]; exact kidsOf_le hbe (by omega)
 obtain ⟨c0, c1, c2, c3, c4, c5, c6⟩ := hn.all hx
 have hba : Below w.heap.size w (w.alloc (.cells #[.int .i8 x.op, .int .i8 x.kind, .int .i64 x.n, .int .i64 x.m, .string x.text, .int .i64 x.pos, .int .i64 x.kids] 42)) := (Below.refl _ _).alloc (Nat.le_refl _) _
 have hki := kids9_any (some ⟨tb, toff, none⟩) ts cap i (w.alloc (.cells #[.int .i8 x.op, .int .i8 x.kind, .int .i64 x.n, .int .i64 x.m, .string x.text, .int .i64 x.pos, .int .i64 x.kids] 42)) (by omega) (.inr ⟨tb, toff, rfl, by simp; omega, hn.below hba htb⟩) hi
 rw [hK] at hki
 have hiI : (i : Int) < ts.length := by omega
 have HKI := Lh hki
 have HBA := Lh hba
 have HN := Lh hn
 have HK := Lh hK
 have HLK := Lh hlk
 have HLA := Lh hla
 have HLG := Lh hlg
 have HG := Lh hg
 have HRC := Lh hr
 have HR := Lh hR
 have HA := Lh ha
 have HBN := Lh (Blk.new w 42 #[.int .i8 x.op, .int .i8 x.kind, .int .i64 x.n, .int .i64 x.m, .string x.text, .int .i64 x.pos, .int .i64 x.kids])
 clear hki hba hn hK hlk hla hlg hg hr hR ha hl0 hx hbe
 go_enter Try.func50, Try.ntmps50
 go_wp2_with fail
 refine HKI.out.mono ?_
 rintro e w1 ⟨kv, rfl, hown, hb1⟩
 obtain ⟨Ak, ck, rfl⟩ := own_form hown
 have hbw : Below w.heap.size w w1 := HBA.out.trans (hb1.mono (by simp))
 have hnd : NodesAt w1 tb toff ts := HN.out.below hbw htb
 have hbn := HBN.out.below hb1 (by simp)
 have hsz := hbw.size
 have hsz2 := hb1.size
 simp only [World.size_alloc] at hsz2
 have hin := (own_ints hown).1
 have HIN := Lh hin
 have HBW := Lh hbw
 have HND := Lh hnd
 have HBB := Lh hbn
 clear hown hb1 hbw hnd hbn hin
 go_wp2_with fail
 go_loopw [9, 10, 11, 12] (fun lv sv iv _ wr => ∃ (k : Nat) (V : Int), k ≤ K ∧ iv = .int .i64 k ∧ sv = .int .i64 V ∧ 0 ≤ V ∧ V ≤ 4611686018427387904 ∧ Hid (V = (l.take k).foldl gadd 0) ∧ wr.ownsRow w1.heap.size 2 1 lv k (gvals (l.take k)) ∧ Below w1.heap.size w1 wr)
  (fun _ _ iv _ _ => K - (intOf iv).toNat)
 case atStart => exact ⟨0, 0, by omega, rfl, rfl, by omega, by omega, rfl, World.ownsRow_nil _ _ _ _, Below.refl _ _⟩
 case round =>
  obtain ⟨k, V, hk, rfl, rfl, hV0, hV1, HV, hown2, hbel⟩ := hrel
  obtain ⟨A9, c9, rfl⟩ := own_form hown2
  have hzr := hbel.size
  by_cases hlt : k < K
  ·obtain ⟨j, hj⟩ : ∃ j, (kidsOf ts i)[k]? = some j := ⟨_, List.getElem?_eq_getElem (by rw [HK.out]; exact hlt)⟩
   have hjm := List.mem_of_getElem? hj
   have hly := HLA.out k j hj
   have hgj := HG.out j hjm
   have hKJ : ((kidsOf ts i).map (fun j : Nat => (j : Int)))[k]? = some (j : Int) := by rw [List.getElem?_map, hj]; rfl
   obtain ⟨b, o, rfl, hbs, hcj⟩ := HIN.out k _ hKJ
   have hcj : wr.cell? ⟨b, o + k, none⟩ = some (.int .i64 j) := (hbel.cell (p := ⟨b, o + k, none⟩) hbs).trans hcj
   have hrj := HRC.out j hjm wr (by omega) (HND.out.below hbel (by omega))
   have hnx := foldl_take_succ l 0 k (rec j) hly
   rw [← HV.out] at hnx
   have hga := gadd_gas (a := V) (b := rec j) ⟨hV0, hV1⟩ hgj.1
   have hts : gvals (l.take (k + 1)) = gvals (l.take k) ++ [.int .i64 (rec j)] := by
    rw [List.take_add_one, hly]
    simp [gvals]
   have HNX := Lh hnx
   have HGA := Lh hga
   have HTS := Lh hts
   have HGJ := Lh hgj
   have HRJ := Lh hrj
   have HO := Lh hown2
   have HBE := Lh hbel
   clear hj hjm hly hgj hKJ hrj hnx hga hts hown2 hbel
   go_wp2_with fail
   refine HRJ.out.mono ?_
   rintro e w2 ⟨rfl, hb2⟩
   have HO2 := Lh ((Frm.of_below (B := 0) (T := []) hb2 (Nat.zero_le _)).own HO.out (by simp))
   have HB2 := Lh (HBE.out.trans (hb2.mono hzr))
   have hzz := HB2.out.size
   clear hb2
   go_wp2_with (at_builtin; go_loud (refine wpList_append1 i64_el rfl _ _ rfl w1.heap.size w2 [.int .i64 (rec j)] rfl _ _ _ rfl HO2.out rfl rfl (by simp [Value.oneCell']) (by unfold maxLen; omega) (by omega) hzz ?_; intro v2 w3 hown3 hg3; obtain ⟨A6, c6, rfl⟩ := own_form hown3; have QB := Lh (Below.of_own HB2.out HO2.out hg3 (Nat.le_refl _) hzz); have QO := Lh hown3; clear hown3 hg3))
   refine (plusN_any V (rec j) _ ⟨hV0, hV1⟩ HGJ.out).mono ?_
   rintro e w4 ⟨rfl, rfl⟩
   go_wp2_with fail
   go_roundw
   case rel =>
    refine ⟨k + 1, gadd V (rec j), by omega, by go_num, rfl, HGA.out.1, HGA.out.2, HNX.out.symm, ?_, QB.out⟩
    have h := QO.out
    rw [HTS.out]
    exact h
   case measure => (simp [intOf]; try omega)
  ·have hkK : k = K := by omega
   subst hkK
   have hl2 : l.take k = l := List.take_of_length_le (by rw [HLK.out]; omega)
   have hvs := HV.out
   rw [hl2] at hown2 hvs
   have HRW := Lh hown2
   have HVS := Lh hvs
   have BE := Lh (HBW.out.trans (hbel.mono hsz))
   have hbk := HBB.out.below hbel (by omega)
   have d0 : wr.cell? ⟨w.heap.size, 0, none⟩ = some (.int .i8 x.op) := hbk.cell 0
   have d2 : wr.cell? ⟨w.heap.size, 2, none⟩ = some (.int .i64 x.n) := hbk.cell 2
   clear hown2 hvs hbel hbk hl2 HV HRC HIN HKI HBA HBN
   rcases hop with hop | hop | hop | hop
   ·skip
    rw [hop] at d0
    have hr : R = V := by have h := HR.out; unfold gasR at h; simp [hop, ← HVS.out] at h; exact h
    clear hop
    go_wp2_with fail
    go_ret
    exact ⟨ret_i64 hr.symm, BE.out⟩
   ·skip
    rw [hop] at d0
    have hr : R = gadd V 1 := by have h := HR.out; unfold gasR at h; simp [hop, ← HVS.out] at h; exact h
    clear hop
    go_wp2_with fail
    refine (plusN_any V 1 _ ⟨hV0, hV1⟩ (num_gas (k := 1) (by omega) (by omega))).mono ?_
    rintro e w6 ⟨rfl, rfl⟩
    go_wp2_with fail
    go_ret
    exact ⟨ret_i64 hr.symm, BE.out⟩
   ·skip
    rw [hop] at d0
    have hr : R = gadd V 1 := by have h := HR.out; unfold gasR at h; simp [hop, ← HVS.out] at h; exact h
    clear hop
    go_wp2_with fail
    refine (plusN_any V 1 _ ⟨hV0, hV1⟩ (num_gas (k := 1) (by omega) (by omega))).mono ?_
    rintro e w6 ⟨rfl, rfl⟩
    go_wp2_with fail
    go_ret
    exact ⟨ret_i64 hr.symm, BE.out⟩
   ·skip
    rw [hop] at d0
    have hk23 : k = 2 ∨ k = 3 := by have h := HA.out; unfold arityB at h; simpa [hop] using h
    obtain ⟨l0, hy0⟩ : ∃ y, l[0]? = some y := ⟨_, List.getElem?_eq_getElem (by have := HLK.out; omega)⟩
    obtain ⟨g, rfl, e0⟩ := own_gas HRW.out hy0
    have G0 := HLG.out l0 (List.mem_of_getElem? hy0)
    have i0 : (0 : Int) < (k : Int) := by omega
    have j0 : 0 < k := by omega
    obtain ⟨l1, hy1⟩ : ∃ y, l[1]? = some y := ⟨_, List.getElem?_eq_getElem (by have := HLK.out; omega)⟩
    have e1 : wr.cell? ⟨g, 1, none⟩ = some (.int .i64 l1) := by
     obtain ⟨g', q1, q2⟩ := own_gas HRW.out hy1
     injection q1 with q1
     injection q1 with q1
     subst q1
     exact q2
    have G1 := HLG.out l1 (List.mem_of_getElem? hy1)
    have i1 : (1 : Int) < (k : Int) := by omega
    have j1 : 1 < k := by omega
    have hr : R = gadd (gadd l0 1) (gsides l l1) := by have h := HR.out; unfold gasR at h; simp [hop, hy0, hy1] at h; exact h
    clear hop
    obtain ⟨p1, hp1, gp1, Hp1⟩ : ∃ p, gadd l0 1 = p ∧ IsGas p ∧ Hid (∀ wx, Calls Try.prog 49 #[.int .i64 l0, .int .i64 1] (wr.drewN wx) fun e w' => e = .returned (.int .i64 p) ∧ ∃ m, w' = wr.drewN m) := ⟨_, rfl, gadd_gas G0 ((num_gas (k := 1) (by omega) (by omega))).1, fun wx => quiet_eq (plusN_any l0 1 _ G0 (num_gas (k := 1) (by omega) (by omega)))⟩
    obtain ⟨p2, hp2, gp2, Hp2⟩ : ∃ p, gsides l l1 = p ∧ IsGas p ∧ Hid (∀ wx, Calls Try.prog 91 #[.slice (some ⟨g, 0, none⟩) k c9, .int .i64 l1] (wr.drewN wx) fun e w' => e = .returned (.int .i64 p) ∧ ∃ m, w' = wr.drewN m) := ⟨_, rfl, gsides_gas HLG.out G1, fun wx => Calls.quiet_of (sides18_any _ w1.heap.size k c9 l l1 _ HLK.out hk23 HRW.out G1 HLG.out)⟩
    obtain ⟨p3, hp3, gp3, Hp3⟩ : ∃ p, gadd p1 p2 = p ∧ IsGas p ∧ Hid (∀ wx, Calls Try.prog 49 #[.int .i64 p1, .int .i64 p2] (wr.drewN wx) fun e w' => e = .returned (.int .i64 p) ∧ ∃ m, w' = wr.drewN m) := ⟨_, rfl, gadd_gas gp1 (gp2).1, fun wx => quiet_eq (plusN_any p1 p2 _ gp1 gp2)⟩
    rw [hp1, hp2, hp3] at hr
    clear hp1 hp2 hp3
    go_wp2_with fail
    go_quiet ((first | (go_at_call 49; with_reducible exact Hp1.out _) | (go_at_call 91; with_reducible exact Hp2.out _) | (go_at_call 49; with_reducible exact Hp3.out _)))
    go_wp2_with fail
    go_ret
    exact ⟨ret_i64 hr.symm, drewN_below BE.out _⟩
end Go.Proofs.Ytggibiodeecljaa
namespace Go.Proofs.Ytggibiodeecljaa
open Go.RowKit
set_option linter.unusedVariables false
set_option maxRecDepth 100000 in
set_option maxHeartbeats 3200000 in
theorem node18_b (tb toff cap : Nat) (ts : List Node) (i : Nat) (x : Node) (c : Int) (rec : Nat → Int) (w : World) (hl : ts.length ≤ 2000) (hi : i < ts.length) (hbe : 0 ≤ behind ts i) (hx : ts[i]? = some x) (htb : tb < w.heap.size) (hn : NodesAt w tb toff ts)
  (h0 : 1 ≤ c) (h1 : c ≤ 256) (ha : arityB x (kidsOf ts i).length = true)
  (hr : ∀ j ∈ kidsOf ts i, ∀ wx, tb < wx.heap.size → NodesAt wx tb toff ts → Calls Try.prog 50 #[.slice (some ⟨tb, toff, none⟩) ts.length cap, .int .i64 j, .int .i64 c] wx fun e w' => e = .returned (.int .i64 (rec j)) ∧ Below wx.heap.size wx w')
  (hg : ∀ j ∈ kidsOf ts i, IsGas (rec j)) (hop : x.op = 14 ∨ x.op = 15 ∨ x.op = 16) :
  Calls Try.prog 50 #[.slice (some ⟨tb, toff, none⟩) ts.length cap, .int .i64 i, .int .i64 c] w fun e w' => e = .returned (.int .i64 (gasR x ((kidsOf ts i).map rec) c)) ∧ Below w.heap.size w w' := by
 obtain ⟨l, hl0⟩ : ∃ l, l = (kidsOf ts i).map rec := ⟨_, rfl⟩
 have hlg : ∀ y ∈ l, IsGas y := fun y hy => by
  rw [hl0] at hy
  obtain ⟨j, hj, rfl⟩ := List.mem_map.1 hy
  exact hg j hj
 have hla : ∀ k j, (kidsOf ts i)[k]? = some j → l[k]? = some (rec j) := fun k j h => by rw [hl0, List.getElem?_map, h]; rfl
 obtain ⟨K, hK⟩ : ∃ K, (kidsOf ts i).length = K := ⟨_, rfl⟩
 have hlk : l.length = K := by rw [hl0, List.length_map, hK]
 rw [← hl0]
 rw [hK] at ha
 obtain ⟨R, hR⟩ : ∃ R, R = gasR x l c := ⟨_, rfl⟩
 rw [← hR]
 have hK9 : K ≤ 100000 := by rw [← hK]; exact kidsOf_le hbe (by omega)
 obtain ⟨c0, c1, c2, c3, c4, c5, c6⟩ := hn.all hx
 have hba : Below w.heap.size w (w.alloc (.cells #[.int .i8 x.op, .int .i8 x.kind, .int .i64 x.n, .int .i64 x.m, .string x.text, .int .i64 x.pos, .int .i64 x.kids] 42)) := (Below.refl _ _).alloc (Nat.le_refl _) _
 have hki := kids9_any (some ⟨tb, toff, none⟩) ts cap i (w.alloc (.cells #[.int .i8 x.op, .int .i8 x.kind, .int .i64 x.n, .int .i64 x.m, .string x.text, .int .i64 x.pos, .int .i64 x.kids] 42)) (by omega) (.inr ⟨tb, toff, rfl, by simp; omega, hn.below hba htb⟩) hi
 rw [hK] at hki
 have hiI : (i : Int) < ts.length := by omega
 have HKI := Lh hki
 have HBA := Lh hba
 have HN := Lh hn
 have HK := Lh hK
 have HLK := Lh hlk
 have HLA := Lh hla
 have HLG := Lh hlg
 have HG := Lh hg
 have HRC := Lh hr
 have HR := Lh hR
 have HA := Lh ha
 have HBN := Lh (Blk.new w 42 #[.int .i8 x.op, .int .i8 x.kind, .int .i64 x.n, .int .i64 x.m, .string x.text, .int .i64 x.pos, .int .i64 x.kids])
 clear hki hba hn hK hlk hla hlg hg hr hR ha hl0 hx hbe
 go_enter Try.func50, Try.ntmps50
 go_wp2_with fail
 refine HKI.out.mono ?_
 rintro e w1 ⟨kv, rfl, hown, hb1⟩
 obtain ⟨Ak, ck, rfl⟩ := own_form hown
 have hbw : Below w.heap.size w w1 := HBA.out.trans (hb1.mono (by simp))
 have hnd : NodesAt w1 tb toff ts := HN.out.below hbw htb
 have hbn := HBN.out.below hb1 (by simp)
 have hsz := hbw.size
 have hsz2 := hb1.size
 simp only [World.size_alloc] at hsz2
 have hin := (own_ints hown).1
 have HIN := Lh hin
 have HBW := Lh hbw
 have HND := Lh hnd
 have HBB := Lh hbn
 clear hown hb1 hbw hnd hbn hin
 go_wp2_with fail
 go_loopw [9, 10, 11, 12] (fun lv sv iv _ wr => ∃ (k : Nat) (V : Int), k ≤ K ∧ iv = .int .i64 k ∧ sv = .int .i64 V ∧ 0 ≤ V ∧ V ≤ 4611686018427387904 ∧ Hid (V = (l.take k).foldl gadd 0) ∧ wr.ownsRow w1.heap.size 2 1 lv k (gvals (l.take k)) ∧ Below w1.heap.size w1 wr)
  (fun _ _ iv _ _ => K - (intOf iv).toNat)
 case atStart => exact ⟨0, 0, by omega, rfl, rfl, by omega, by omega, rfl, World.ownsRow_nil _ _ _ _, Below.refl _ _⟩
 case round =>
  obtain ⟨k, V, hk, rfl, rfl, hV0, hV1, HV, hown2, hbel⟩ := hrel
  obtain ⟨A9, c9, rfl⟩ := own_form hown2
  have hzr := hbel.size
  by_cases hlt : k < K
  ·obtain ⟨j, hj⟩ : ∃ j, (kidsOf ts i)[k]? = some j := ⟨_, List.getElem?_eq_getElem (by rw [HK.out]; exact hlt)⟩
   have hjm := List.mem_of_getElem? hj
   have hly := HLA.out k j hj
   have hgj := HG.out j hjm
   have hKJ : ((kidsOf ts i).map (fun j : Nat => (j : Int)))[k]? = some (j : Int) := by rw [List.getElem?_map, hj]; rfl
   obtain ⟨b, o, rfl, hbs, hcj⟩ := HIN.out k _ hKJ
   have hcj : wr.cell? ⟨b, o + k, none⟩ = some (.int .i64 j) := (hbel.cell (p := ⟨b, o + k, none⟩) hbs).trans hcj
   have hrj := HRC.out j hjm wr (by omega) (HND.out.below hbel (by omega))
   have hnx := foldl_take_succ l 0 k (rec j) hly
   rw [← HV.out] at hnx
   have hga := gadd_gas (a := V) (b := rec j) ⟨hV0, hV1⟩ hgj.1
   have hts : gvals (l.take (k + 1)) = gvals (l.take k) ++ [.int .i64 (rec j)] := by
    rw [List.take_add_one, hly]
    simp [gvals]
   have HNX := Lh hnx
   have HGA := Lh hga
   have HTS := Lh hts
   have HGJ := Lh hgj
   have HRJ := Lh hrj
   have HO := Lh hown2
   have HBE := Lh hbel
   clear hj hjm hly hgj hKJ hrj hnx hga hts hown2 hbel
   go_wp2_with fail
   refine HRJ.out.mono ?_
   rintro e w2 ⟨rfl, hb2⟩
   have HO2 := Lh ((Frm.of_below (B := 0) (T := []) hb2 (Nat.zero_le _)).own HO.out (by simp))
   have HB2 := Lh (HBE.out.trans (hb2.mono hzr))
   have hzz := HB2.out.size
   clear hb2
   go_wp2_with (at_builtin; go_loud (refine wpList_append1 i64_el rfl _ _ rfl w1.heap.size w2 [.int .i64 (rec j)] rfl _ _ _ rfl HO2.out rfl rfl (by simp [Value.oneCell']) (by unfold maxLen; omega) (by omega) hzz ?_; intro v2 w3 hown3 hg3; obtain ⟨A6, c6, rfl⟩ := own_form hown3; have QB := Lh (Below.of_own HB2.out HO2.out hg3 (Nat.le_refl _) hzz); have QO := Lh hown3; clear hown3 hg3))
   refine (plusN_any V (rec j) _ ⟨hV0, hV1⟩ HGJ.out).mono ?_
   rintro e w4 ⟨rfl, rfl⟩
   go_wp2_with fail
   go_roundw
   case rel =>
    refine ⟨k + 1, gadd V (rec j), by omega, by go_num, rfl, HGA.out.1, HGA.out.2, HNX.out.symm, ?_, QB.out⟩
    have h := QO.out
    rw [HTS.out]
    exact h
   case measure => (simp [intOf]; try omega)
  ·have hkK : k = K := by omega
   subst hkK
   have hl2 : l.take k = l := List.take_of_length_le (by rw [HLK.out]; omega)
   have hvs := HV.out
   rw [hl2] at hown2 hvs
   have HRW := Lh hown2
   have HVS := Lh hvs
   have BE := Lh (HBW.out.trans (hbel.mono hsz))
   have hbk := HBB.out.below hbel (by omega)
   have d0 : wr.cell? ⟨w.heap.size, 0, none⟩ = some (.int .i8 x.op) := hbk.cell 0
   have d2 : wr.cell? ⟨w.heap.size, 2, none⟩ = some (.int .i64 x.n) := hbk.cell 2
   clear hown2 hvs hbel hbk hl2 HV HRC HIN HKI HBA HBN
   rcases hop with hop | hop | hop
   ·skip
    rw [hop] at d0
    obtain ⟨hk1, n0, n1⟩ := arity_rounds HA.out hop
    obtain ⟨l0, hy0⟩ : ∃ y, l[0]? = some y := ⟨_, List.getElem?_eq_getElem (by have := HLK.out; omega)⟩
    obtain ⟨g, rfl, e0⟩ := own_gas HRW.out hy0
    have G0 := HLG.out l0 (List.mem_of_getElem? hy0)
    have i0 : (0 : Int) < (k : Int) := by omega
    have j0 : 0 < k := by omega
    have hr : R = gadd (gadd 2 (gtimes (x.n + 1) 4)) (gtimes (gadd l0 5) x.n) := by have h := HR.out; unfold gasR at h; simp [hop, hy0] at h; exact h
    clear hop
    obtain ⟨p1, hp1, gp1, Hp1⟩ : ∃ p, gtimes (x.n + 1) 4 = p ∧ IsGas p ∧ Hid (∀ wx, Calls Try.prog 92 #[.int .i64 4, .int .i64 (x.n + 1)] (wr.drewN wx) fun e w' => e = .returned (.int .i64 p) ∧ ∃ m, w' = wr.drewN m) := ⟨_, rfl, gtimes_gas ((num_gas (k := x.n + 1) (by omega) (by omega))).1 (by omega), fun wx => quiet_eq (times18_any 4 (x.n + 1) _ (by omega) (by omega) (num_gas (k := x.n + 1) (by omega) (by omega)))⟩
    obtain ⟨p2, hp2, gp2, Hp2⟩ : ∃ p, gadd 2 p1 = p ∧ IsGas p ∧ Hid (∀ wx, Calls Try.prog 49 #[.int .i64 2, .int .i64 p1] (wr.drewN wx) fun e w' => e = .returned (.int .i64 p) ∧ ∃ m, w' = wr.drewN m) := ⟨_, rfl, gadd_gas (num_gas (k := 2) (by omega) (by omega)) (gp1).1, fun wx => quiet_eq (plusN_any 2 p1 _ (num_gas (k := 2) (by omega) (by omega)) gp1)⟩
    obtain ⟨p3, hp3, gp3, Hp3⟩ : ∃ p, gadd l0 5 = p ∧ IsGas p ∧ Hid (∀ wx, Calls Try.prog 49 #[.int .i64 l0, .int .i64 5] (wr.drewN wx) fun e w' => e = .returned (.int .i64 p) ∧ ∃ m, w' = wr.drewN m) := ⟨_, rfl, gadd_gas G0 ((num_gas (k := 5) (by omega) (by omega))).1, fun wx => quiet_eq (plusN_any l0 5 _ G0 (num_gas (k := 5) (by omega) (by omega)))⟩
    obtain ⟨p4, hp4, gp4, Hp4⟩ : ∃ p, gtimes p3 x.n = p ∧ IsGas p ∧ Hid (∀ wx, Calls Try.prog 92 #[.int .i64 x.n, .int .i64 p3] (wr.drewN wx) fun e w' => e = .returned (.int .i64 p) ∧ ∃ m, w' = wr.drewN m) := ⟨_, rfl, gtimes_gas (gp3).1 (by omega), fun wx => quiet_eq (times18_any x.n p3 _ (by omega) (by omega) gp3)⟩
    obtain ⟨p5, hp5, gp5, Hp5⟩ : ∃ p, gadd p2 p4 = p ∧ IsGas p ∧ Hid (∀ wx, Calls Try.prog 49 #[.int .i64 p2, .int .i64 p4] (wr.drewN wx) fun e w' => e = .returned (.int .i64 p) ∧ ∃ m, w' = wr.drewN m) := ⟨_, rfl, gadd_gas gp2 (gp4).1, fun wx => quiet_eq (plusN_any p2 p4 _ gp2 gp4)⟩
    rw [hp1, hp2, hp3, hp4, hp5] at hr
    clear hp1 hp2 hp3 hp4 hp5
    go_wp2_with fail
    go_quiet ((first | (go_at_call 92; with_reducible exact Hp1.out _) | (go_at_call 49; with_reducible exact Hp2.out _) | (go_at_call 49; with_reducible exact Hp3.out _) | (go_at_call 92; with_reducible exact Hp4.out _) | (go_at_call 49; with_reducible exact Hp5.out _)))
    go_wp2_with fail
    go_ret
    exact ⟨ret_i64 hr.symm, drewN_below BE.out _⟩
   ·skip
    rw [hop] at d0
    have hk2 : k = 2 := by have h := HA.out; unfold arityB at h; simpa [hop] using h
    obtain ⟨l0, hy0⟩ : ∃ y, l[0]? = some y := ⟨_, List.getElem?_eq_getElem (by have := HLK.out; omega)⟩
    obtain ⟨g, rfl, e0⟩ := own_gas HRW.out hy0
    have G0 := HLG.out l0 (List.mem_of_getElem? hy0)
    have i0 : (0 : Int) < (k : Int) := by omega
    have j0 : 0 < k := by omega
    obtain ⟨l1, hy1⟩ : ∃ y, l[1]? = some y := ⟨_, List.getElem?_eq_getElem (by have := HLK.out; omega)⟩
    have e1 : wr.cell? ⟨g, 1, none⟩ = some (.int .i64 l1) := by
     obtain ⟨g', q1, q2⟩ := own_gas HRW.out hy1
     injection q1 with q1
     injection q1 with q1
     subst q1
     exact q2
    have G1 := HLG.out l1 (List.mem_of_getElem? hy1)
    have i1 : (1 : Int) < (k : Int) := by omega
    have j1 : 1 < k := by omega
    have hr : R = gadd (gadd l0 (3 + c + 1)) (gtimes (gadd l1 2) c) := by have h := HR.out; unfold gasR at h; simp [hop, hy0, hy1] at h; exact h
    clear hop
    obtain ⟨p1, hp1, gp1, Hp1⟩ : ∃ p, gadd l0 (3 + c + 1) = p ∧ IsGas p ∧ Hid (∀ wx, Calls Try.prog 49 #[.int .i64 l0, .int .i64 (3 + c + 1)] (wr.drewN wx) fun e w' => e = .returned (.int .i64 p) ∧ ∃ m, w' = wr.drewN m) := ⟨_, rfl, gadd_gas G0 ((num_gas (k := 3 + c + 1) (by omega) (by omega))).1, fun wx => quiet_eq (plusN_any l0 (3 + c + 1) _ G0 (num_gas (k := 3 + c + 1) (by omega) (by omega)))⟩
    obtain ⟨p2, hp2, gp2, Hp2⟩ : ∃ p, gadd l1 2 = p ∧ IsGas p ∧ Hid (∀ wx, Calls Try.prog 49 #[.int .i64 l1, .int .i64 2] (wr.drewN wx) fun e w' => e = .returned (.int .i64 p) ∧ ∃ m, w' = wr.drewN m) := ⟨_, rfl, gadd_gas G1 ((num_gas (k := 2) (by omega) (by omega))).1, fun wx => quiet_eq (plusN_any l1 2 _ G1 (num_gas (k := 2) (by omega) (by omega)))⟩
    obtain ⟨p3, hp3, gp3, Hp3⟩ : ∃ p, gtimes p2 c = p ∧ IsGas p ∧ Hid (∀ wx, Calls Try.prog 92 #[.int .i64 c, .int .i64 p2] (wr.drewN wx) fun e w' => e = .returned (.int .i64 p) ∧ ∃ m, w' = wr.drewN m) := ⟨_, rfl, gtimes_gas (gp2).1 (by omega), fun wx => quiet_eq (times18_any c p2 _ (by omega) (by omega) gp2)⟩
    obtain ⟨p4, hp4, gp4, Hp4⟩ : ∃ p, gadd p1 p3 = p ∧ IsGas p ∧ Hid (∀ wx, Calls Try.prog 49 #[.int .i64 p1, .int .i64 p3] (wr.drewN wx) fun e w' => e = .returned (.int .i64 p) ∧ ∃ m, w' = wr.drewN m) := ⟨_, rfl, gadd_gas gp1 (gp3).1, fun wx => quiet_eq (plusN_any p1 p3 _ gp1 gp3)⟩
    rw [hp1, hp2, hp3, hp4] at hr
    clear hp1 hp2 hp3 hp4
    go_wp2_with fail
    go_quiet ((first | (go_at_call 49; with_reducible exact Hp1.out _) | (go_at_call 49; with_reducible exact Hp2.out _) | (go_at_call 92; with_reducible exact Hp3.out _) | (go_at_call 49; with_reducible exact Hp4.out _)))
    go_wp2_with fail
    go_ret
    exact ⟨ret_i64 hr.symm, drewN_below BE.out _⟩
   ·skip
    rw [hop] at d0
    have hk23 : k = 2 ∨ k = 3 := by have h := HA.out; unfold arityB at h; simpa [hop] using h
    obtain ⟨l0, hy0⟩ : ∃ y, l[0]? = some y := ⟨_, List.getElem?_eq_getElem (by have := HLK.out; omega)⟩
    obtain ⟨g, rfl, e0⟩ := own_gas HRW.out hy0
    have G0 := HLG.out l0 (List.mem_of_getElem? hy0)
    have i0 : (0 : Int) < (k : Int) := by omega
    have j0 : 0 < k := by omega
    obtain ⟨l1, hy1⟩ : ∃ y, l[1]? = some y := ⟨_, List.getElem?_eq_getElem (by have := HLK.out; omega)⟩
    have e1 : wr.cell? ⟨g, 1, none⟩ = some (.int .i64 l1) := by
     obtain ⟨g', q1, q2⟩ := own_gas HRW.out hy1
     injection q1 with q1
     injection q1 with q1
     subst q1
     exact q2
    have G1 := HLG.out l1 (List.mem_of_getElem? hy1)
    have i1 : (1 : Int) < (k : Int) := by omega
    have j1 : 1 < k := by omega
    have hr : R = gadd (gadd l0 1) (gsides l (gadd l1 1)) := by have h := HR.out; unfold gasR at h; simp [hop, hy0, hy1] at h; exact h
    clear hop
    obtain ⟨p1, hp1, gp1, Hp1⟩ : ∃ p, gadd l0 1 = p ∧ IsGas p ∧ Hid (∀ wx, Calls Try.prog 49 #[.int .i64 l0, .int .i64 1] (wr.drewN wx) fun e w' => e = .returned (.int .i64 p) ∧ ∃ m, w' = wr.drewN m) := ⟨_, rfl, gadd_gas G0 ((num_gas (k := 1) (by omega) (by omega))).1, fun wx => quiet_eq (plusN_any l0 1 _ G0 (num_gas (k := 1) (by omega) (by omega)))⟩
    obtain ⟨p2, hp2, gp2, Hp2⟩ : ∃ p, gadd l1 1 = p ∧ IsGas p ∧ Hid (∀ wx, Calls Try.prog 49 #[.int .i64 l1, .int .i64 1] (wr.drewN wx) fun e w' => e = .returned (.int .i64 p) ∧ ∃ m, w' = wr.drewN m) := ⟨_, rfl, gadd_gas G1 ((num_gas (k := 1) (by omega) (by omega))).1, fun wx => quiet_eq (plusN_any l1 1 _ G1 (num_gas (k := 1) (by omega) (by omega)))⟩
    obtain ⟨p3, hp3, gp3, Hp3⟩ : ∃ p, gsides l p2 = p ∧ IsGas p ∧ Hid (∀ wx, Calls Try.prog 91 #[.slice (some ⟨g, 0, none⟩) k c9, .int .i64 p2] (wr.drewN wx) fun e w' => e = .returned (.int .i64 p) ∧ ∃ m, w' = wr.drewN m) := ⟨_, rfl, gsides_gas HLG.out gp2, fun wx => Calls.quiet_of (sides18_any _ w1.heap.size k c9 l p2 _ HLK.out hk23 HRW.out gp2 HLG.out)⟩
    obtain ⟨p4, hp4, gp4, Hp4⟩ : ∃ p, gadd p1 p3 = p ∧ IsGas p ∧ Hid (∀ wx, Calls Try.prog 49 #[.int .i64 p1, .int .i64 p3] (wr.drewN wx) fun e w' => e = .returned (.int .i64 p) ∧ ∃ m, w' = wr.drewN m) := ⟨_, rfl, gadd_gas gp1 (gp3).1, fun wx => quiet_eq (plusN_any p1 p3 _ gp1 gp3)⟩
    rw [hp1, hp2, hp3, hp4] at hr
    clear hp1 hp2 hp3 hp4
    go_wp2_with fail
    go_quiet ((first | (go_at_call 49; with_reducible exact Hp1.out _) | (go_at_call 49; with_reducible exact Hp2.out _) | (go_at_call 91; with_reducible exact Hp3.out _) | (go_at_call 49; with_reducible exact Hp4.out _)))
    go_wp2_with fail
    go_ret
    exact ⟨ret_i64 hr.symm, drewN_below BE.out _⟩
end Go.Proofs.Ytggibiodeecljaa
