/- The reference's cost of a node, its kids' costs known. Written by gen_node18.py. The reference's cost of a node, its kids' costs known. Written by gen_node18.py. The reference's cost of a node, its kids' costs known. Written by gen_node18.py. -/
import Derived.Test.YtggibiodeecljaaMTree9
import Derived.Deep.QuietTactic
import Derived.BigQuiet
namespace Go.Proofs.Ytggibiodeecljaa
open Go.RowKit
set_option linter.unusedVariables false
set_option maxRecDepth 100000 in
set_option maxHeartbeats 3200000 in
theorem node18_c (tb toff cap : Nat) (ts : List Node) (i : Nat) (x : Node) (c : Int) (rec : Nat → Int) (w : World) (hl : ts.length ≤ 2000) (hi : i < ts.length) (hbe : 0 ≤ behind ts i) (hx : ts[i]? = some x) (htb : tb < w.heap.size) (hn : NodesAt w tb toff ts)
  (h0 : 1 ≤ c) (h1 : c ≤ 256) (ha : arityB x (kidsOf ts i).length = true)
  (hr : ∀ j ∈ kidsOf ts i, ∀ wx, tb < wx.heap.size → NodesAt wx tb toff ts → Calls Try.prog 50 #[.slice (some ⟨tb, toff, none⟩) ts.length cap, .int .i64 j, .int .i64 c] wx fun e w' => e = .returned (.int .i64 (rec j)) ∧ Below wx.heap.size wx w')
  (hg : ∀ j ∈ kidsOf ts i, IsGas (rec j)) (hop : x.op = 17 ∨ x.op = 18 ∨ x.op = 30 ∨ x.op = 31 ∨ x.op = 32 ∨ x.op = 33 ∨ x.op = 34 ∨ x.op = 35) :
  Calls Try.prog 50 #[.slice (some ⟨tb, toff, none⟩) ts.length cap, .int .i64 i, .int .i64 c] w fun e w' => e = .returned (.int .i64 (gasR x ((kidsOf ts i).map rec) c)) ∧ Below w.heap.size w w' := by
 obtain ⟨l, hl0⟩ : ∃ l, l = (kidsOf ts i).map rec := ⟨_, rfl⟩
 have hlg : ∀ y ∈ l, IsGas y := fun y hy => by
  rw [hl0] at hy
  obtain ⟨j, hj, rfl⟩ := List.mem_map.1 hy
  exact hg j hj
 have hla : ∀ k j, (kidsOf ts i)[k]? = some j → l[k]? = some (rec j) := fun k j h => by rw [hl0, List.getElem?_map, h]; rfl
 obtain ⟨K, hK⟩ : ∃ K, (kidsOf ts i).length = K := ⟨_, rfl⟩
 have hlk : l.length = K := by rw [hl0, List.length_map, hK]
 rw [← hl0]
 rw [hK] at ha
 obtain ⟨R, hR⟩ : ∃ R, R = gasR x l c := ⟨_, rfl⟩
 rw [← hR]
 have hK9 : K ≤ 100000 := by rw [← hK]; exact kidsOf_le hbe (by omega)
 obtain ⟨c0, c1, c2, c3, c4, c5, c6⟩ := hn.all hx
 have hba : Below w.heap.size w (w.alloc (.cells #[.int .i8 x.op, .int .i8 x.kind, .int .i64 x.n, .int .i64 x.m, .string x.text, .int .i64 x.pos, .int .i64 x.kids] 42)) := (Below.refl _ _).alloc (Nat.le_refl _) _
 have hki := kids9_any (some ⟨tb, toff, none⟩) ts cap i (w.alloc (.cells #[.int .i8 x.op, .int .i8 x.kind, .int .i64 x.n, .int .i64 x.m, .string x.text, .int .i64 x.pos, .int .i64 x.kids] 42)) (by omega) (.inr ⟨tb, toff, rfl, by simp; omega, hn.below hba htb⟩) hi
 rw [hK] at hki
 have hiI : (i : Int) < ts.length := by omega
 have HKI := Lh hki
 have HBA := Lh hba
 have HN := Lh hn
 have HK := Lh hK
 have HLK := Lh hlk
 have HLA := Lh hla
 have HLG := Lh hlg
 have HG := Lh hg
 have HRC := Lh hr
 have HR := Lh hR
 have HA := Lh ha
 have HBN := Lh (Blk.new w 42 #[.int .i8 x.op, .int .i8 x.kind, .int .i64 x.n, .int .i64 x.m, .string x.text, .int .i64 x.pos, .int .i64 x.kids])
 clear hki hba hn hK hlk hla hlg hg hr hR ha hl0 hx hbe
 go_enter Try.func50, Try.ntmps50
 go_wp2_with fail
 refine HKI.out.mono ?_
 rintro e w1 ⟨kv, rfl, hown, hb1⟩
 obtain ⟨Ak, ck, rfl⟩ := own_form hown
 have hbw : Below w.heap.size w w1 := HBA.out.trans (hb1.mono (by simp))
 have hnd : NodesAt w1 tb toff ts := HN.out.below hbw htb
 have hbn := HBN.out.below hb1 (by simp)
 have hsz := hbw.size
 have hsz2 := hb1.size
 simp only [World.size_alloc] at hsz2
 have hin := (own_ints hown).1
 have HIN := Lh hin
 have HBW := Lh hbw
 have HND := Lh hnd
 have HBB := Lh hbn
 clear hown hb1 hbw hnd hbn hin
 go_wp2_with fail
 go_loopw [9, 10, 11, 12] (fun lv sv iv _ wr => ∃ (k : Nat) (V : Int), k ≤ K ∧ iv = .int .i64 k ∧ sv = .int .i64 V ∧ 0 ≤ V ∧ V ≤ 4611686018427387904 ∧ Hid (V = (l.take k).foldl gadd 0) ∧ wr.ownsRow w1.heap.size 2 1 lv k (gvals (l.take k)) ∧ Below w1.heap.size w1 wr)
  (fun _ _ iv _ _ => K - (intOf iv).toNat)
 case atStart => exact ⟨0, 0, by omega, rfl, rfl, by omega, by omega, rfl, World.ownsRow_nil _ _ _ _, Below.refl _ _⟩
 case round =>
  obtain ⟨k, V, hk, rfl, rfl, hV0, hV1, HV, hown2, hbel⟩ := hrel
  obtain ⟨A9, c9, rfl⟩ := own_form hown2
  have hzr := hbel.size
  by_cases hlt : k < K
  ·obtain ⟨j, hj⟩ : ∃ j, (kidsOf ts i)[k]? = some j := ⟨_, List.getElem?_eq_getElem (by rw [HK.out]; exact hlt)⟩
   have hjm := List.mem_of_getElem? hj
   have hly := HLA.out k j hj
   have hgj := HG.out j hjm
   have hKJ : ((kidsOf ts i).map (fun j : Nat => (j : Int)))[k]? = some (j : Int) := by rw [List.getElem?_map, hj]; rfl
   obtain ⟨b, o, rfl, hbs, hcj⟩ := HIN.out k _ hKJ
   have hcj : wr.cell? ⟨b, o + k, none⟩ = some (.int .i64 j) := (hbel.cell (p := ⟨b, o + k, none⟩) hbs).trans hcj
   have hrj := HRC.out j hjm wr (by omega) (HND.out.below hbel (by omega))
   have hnx := foldl_take_succ l 0 k (rec j) hly
   rw [← HV.out] at hnx
   have hga := gadd_gas (a := V) (b := rec j) ⟨hV0, hV1⟩ hgj.1
   have hts : gvals (l.take (k + 1)) = gvals (l.take k) ++ [.int .i64 (rec j)] := by
    rw [List.take_add_one, hly]
    simp [gvals]
   have HNX := Lh hnx
   have HGA := Lh hga
   have HTS := Lh hts
   have HGJ := Lh hgj
   have HRJ := Lh hrj
   have HO := Lh hown2
   have HBE := Lh hbel
   clear hj hjm hly hgj hKJ hrj hnx hga hts hown2 hbel
   go_wp2_with fail
   refine HRJ.out.mono ?_
   rintro e w2 ⟨rfl, hb2⟩
   have HO2 := Lh ((Frm.of_below (B := 0) (T := []) hb2 (Nat.zero_le _)).own HO.out (by simp))
   have HB2 := Lh (HBE.out.trans (hb2.mono hzr))
   have hzz := HB2.out.size
   clear hb2
   go_wp2_with (at_builtin; go_loud (refine wpList_append1 i64_el rfl _ _ rfl w1.heap.size w2 [.int .i64 (rec j)] rfl _ _ _ rfl HO2.out rfl rfl (by simp [Value.oneCell']) (by unfold maxLen; omega) (by omega) hzz ?_; intro v2 w3 hown3 hg3; obtain ⟨A6, c6, rfl⟩ := own_form hown3; have QB := Lh (Below.of_own HB2.out HO2.out hg3 (Nat.le_refl _) hzz); have QO := Lh hown3; clear hown3 hg3))
   refine (plusN_any V (rec j) _ ⟨hV0, hV1⟩ HGJ.out).mono ?_
   rintro e w4 ⟨rfl, rfl⟩
   go_wp2_with fail
   go_roundw
   case rel =>
    refine ⟨k + 1, gadd V (rec j), by omega, by go_num, rfl, HGA.out.1, HGA.out.2, HNX.out.symm, ?_, QB.out⟩
    have h := QO.out
    rw [HTS.out]
    exact h
   case measure => (simp [intOf]; try omega)
  ·have hkK : k = K := by omega
   subst hkK
   have hl2 : l.take k = l := List.take_of_length_le (by rw [HLK.out]; omega)
   have hvs := HV.out
   rw [hl2] at hown2 hvs
   have HRW := Lh hown2
   have HVS := Lh hvs
   have BE := Lh (HBW.out.trans (hbel.mono hsz))
   have hbk := HBB.out.below hbel (by omega)
   have d0 : wr.cell? ⟨w.heap.size, 0, none⟩ = some (.int .i8 x.op) := hbk.cell 0
   have d2 : wr.cell? ⟨w.heap.size, 2, none⟩ = some (.int .i64 x.n) := hbk.cell 2
   clear hown2 hvs hbel hbk hl2 HV HRC HIN HKI HBA HBN
   rcases hop with hop | hop | hop | hop | hop | hop | hop | hop
   ·skip
    rw [hop] at d0
    have hr : R = 1 := by have h := HR.out; unfold gasR at h; simp [hop] at h; exact h
    clear hop
    go_wp2_with fail
    go_ret
    exact ⟨ret_i64 hr.symm, BE.out⟩
   ·skip
    rw [hop] at d0
    have hr : R = 1 := by have h := HR.out; unfold gasR at h; simp [hop] at h; exact h
    clear hop
    go_wp2_with fail
    go_ret
    exact ⟨ret_i64 hr.symm, BE.out⟩
   ·skip
    rw [hop] at d0
    have hr : R = 1 := by have h := HR.out; unfold gasR at h; simp [hop] at h; exact h
    clear hop
    go_wp2_with fail
    go_ret
    exact ⟨ret_i64 hr.symm, BE.out⟩
   ·skip
    rw [hop] at d0
    have hr : R = 1 := by have h := HR.out; unfold gasR at h; simp [hop] at h; exact h
    clear hop
    go_wp2_with fail
    go_ret
    exact ⟨ret_i64 hr.symm, BE.out⟩
   ·skip
    rw [hop] at d0
    have hr : R = 1 := by have h := HR.out; unfold gasR at h; simp [hop] at h; exact h
    clear hop
    go_wp2_with fail
    go_ret
    exact ⟨ret_i64 hr.symm, BE.out⟩
   ·skip
    rw [hop] at d0
    have hr : R = 1 := by have h := HR.out; unfold gasR at h; simp [hop] at h; exact h
    clear hop
    go_wp2_with fail
    go_ret
    exact ⟨ret_i64 hr.symm, BE.out⟩
   ·skip
    rw [hop] at d0
    have hr : R = gadd V 1 := by have h := HR.out; unfold gasR at h; simp [hop, ← HVS.out] at h; exact h
    clear hop
    go_wp2_with fail
    refine (plusN_any V 1 _ ⟨hV0, hV1⟩ (num_gas (k := 1) (by omega) (by omega))).mono ?_
    rintro e w6 ⟨rfl, rfl⟩
    go_wp2_with fail
    go_ret
    exact ⟨ret_i64 hr.symm, BE.out⟩
   ·skip
    rw [hop] at d0
    have hr : R = gadd V 1 := by have h := HR.out; unfold gasR at h; simp [hop, ← HVS.out] at h; exact h
    clear hop
    go_wp2_with fail
    refine (plusN_any V 1 _ ⟨hV0, hV1⟩ (num_gas (k := 1) (by omega) (by omega))).mono ?_
    rintro e w6 ⟨rfl, rfl⟩
    go_wp2_with fail
    go_ret
    exact ⟨ret_i64 hr.symm, BE.out⟩
end Go.Proofs.Ytggibiodeecljaa
namespace Go.Proofs.Ytggibiodeecljaa
open Go.RowKit
set_option linter.unusedVariables false
set_option maxRecDepth 100000 in
set_option maxHeartbeats 3200000 in
theorem node18_d (tb toff cap : Nat) (ts : List Node) (i : Nat) (x : Node) (c : Int) (rec : Nat → Int) (w : World) (hl : ts.length ≤ 2000) (hi : i < ts.length) (hbe : 0 ≤ behind ts i) (hx : ts[i]? = some x) (htb : tb < w.heap.size) (hn : NodesAt w tb toff ts)
  (h0 : 1 ≤ c) (h1 : c ≤ 256) (ha : arityB x (kidsOf ts i).length = true)
  (hr : ∀ j ∈ kidsOf ts i, ∀ wx, tb < wx.heap.size → NodesAt wx tb toff ts → Calls Try.prog 50 #[.slice (some ⟨tb, toff, none⟩) ts.length cap, .int .i64 j, .int .i64 c] wx fun e w' => e = .returned (.int .i64 (rec j)) ∧ Below wx.heap.size wx w')
  (hg : ∀ j ∈ kidsOf ts i, IsGas (rec j)) (hop : x.op = 36 ∨ x.op = 37 ∨ x.op = 39 ∨ x.op = 49 ∨ x.op = 50 ∨ x.op = 19 ∨ x.op = 51 ∨ x.op = 52) :
  Calls Try.prog 50 #[.slice (some ⟨tb, toff, none⟩) ts.length cap, .int .i64 i, .int .i64 c] w fun e w' => e = .returned (.int .i64 (gasR x ((kidsOf ts i).map rec) c)) ∧ Below w.heap.size w w' := by
 obtain ⟨l, hl0⟩ : ∃ l, l = (kidsOf ts i).map rec := ⟨_, rfl⟩
 have hlg : ∀ y ∈ l, IsGas y := fun y hy => by
  rw [hl0] at hy
  obtain ⟨j, hj, rfl⟩ := List.mem_map.1 hy
  exact hg j hj
 have hla : ∀ k j, (kidsOf ts i)[k]? = some j → l[k]? = some (rec j) := fun k j h => by rw [hl0, List.getElem?_map, h]; rfl
 obtain ⟨K, hK⟩ : ∃ K, (kidsOf ts i).length = K := ⟨_, rfl⟩
 have hlk : l.length = K := by rw [hl0, List.length_map, hK]
 rw [← hl0]
 rw [hK] at ha
 obtain ⟨R, hR⟩ : ∃ R, R = gasR x l c := ⟨_, rfl⟩
 rw [← hR]
 have hK9 : K ≤ 100000 := by rw [← hK]; exact kidsOf_le hbe (by omega)
 obtain ⟨c0, c1, c2, c3, c4, c5, c6⟩ := hn.all hx
 have hba : Below w.heap.size w (w.alloc (.cells #[.int .i8 x.op, .int .i8 x.kind, .int .i64 x.n, .int .i64 x.m, .string x.text, .int .i64 x.pos, .int .i64 x.kids] 42)) := (Below.refl _ _).alloc (Nat.le_refl _) _
 have hki := kids9_any (some ⟨tb, toff, none⟩) ts cap i (w.alloc (.cells #[.int .i8 x.op, .int .i8 x.kind, .int .i64 x.n, .int .i64 x.m, .string x.text, .int .i64 x.pos, .int .i64 x.kids] 42)) (by omega) (.inr ⟨tb, toff, rfl, by simp; omega, hn.below hba htb⟩) hi
 rw [hK] at hki
 have hiI : (i : Int) < ts.length := by omega
 have HKI := Lh hki
 have HBA := Lh hba
 have HN := Lh hn
 have HK := Lh hK
 have HLK := Lh hlk
 have HLA := Lh hla
 have HLG := Lh hlg
 have HG := Lh hg
 have HRC := Lh hr
 have HR := Lh hR
 have HA := Lh ha
 have HBN := Lh (Blk.new w 42 #[.int .i8 x.op, .int .i8 x.kind, .int .i64 x.n, .int .i64 x.m, .string x.text, .int .i64 x.pos, .int .i64 x.kids])
 clear hki hba hn hK hlk hla hlg hg hr hR ha hl0 hx hbe
 go_enter Try.func50, Try.ntmps50
 go_wp2_with fail
 refine HKI.out.mono ?_
 rintro e w1 ⟨kv, rfl, hown, hb1⟩
 obtain ⟨Ak, ck, rfl⟩ := own_form hown
 have hbw : Below w.heap.size w w1 := HBA.out.trans (hb1.mono (by simp))
 have hnd : NodesAt w1 tb toff ts := HN.out.below hbw htb
 have hbn := HBN.out.below hb1 (by simp)
 have hsz := hbw.size
 have hsz2 := hb1.size
 simp only [World.size_alloc] at hsz2
 have hin := (own_ints hown).1
 have HIN := Lh hin
 have HBW := Lh hbw
 have HND := Lh hnd
 have HBB := Lh hbn
 clear hown hb1 hbw hnd hbn hin
 go_wp2_with fail
 go_loopw [9, 10, 11, 12] (fun lv sv iv _ wr => ∃ (k : Nat) (V : Int), k ≤ K ∧ iv = .int .i64 k ∧ sv = .int .i64 V ∧ 0 ≤ V ∧ V ≤ 4611686018427387904 ∧ Hid (V = (l.take k).foldl gadd 0) ∧ wr.ownsRow w1.heap.size 2 1 lv k (gvals (l.take k)) ∧ Below w1.heap.size w1 wr)
  (fun _ _ iv _ _ => K - (intOf iv).toNat)
 case atStart => exact ⟨0, 0, by omega, rfl, rfl, by omega, by omega, rfl, World.ownsRow_nil _ _ _ _, Below.refl _ _⟩
 case round =>
  obtain ⟨k, V, hk, rfl, rfl, hV0, hV1, HV, hown2, hbel⟩ := hrel
  obtain ⟨A9, c9, rfl⟩ := own_form hown2
  have hzr := hbel.size
  by_cases hlt : k < K
  ·obtain ⟨j, hj⟩ : ∃ j, (kidsOf ts i)[k]? = some j := ⟨_, List.getElem?_eq_getElem (by rw [HK.out]; exact hlt)⟩
   have hjm := List.mem_of_getElem? hj
   have hly := HLA.out k j hj
   have hgj := HG.out j hjm
   have hKJ : ((kidsOf ts i).map (fun j : Nat => (j : Int)))[k]? = some (j : Int) := by rw [List.getElem?_map, hj]; rfl
   obtain ⟨b, o, rfl, hbs, hcj⟩ := HIN.out k _ hKJ
   have hcj : wr.cell? ⟨b, o + k, none⟩ = some (.int .i64 j) := (hbel.cell (p := ⟨b, o + k, none⟩) hbs).trans hcj
   have hrj := HRC.out j hjm wr (by omega) (HND.out.below hbel (by omega))
   have hnx := foldl_take_succ l 0 k (rec j) hly
   rw [← HV.out] at hnx
   have hga := gadd_gas (a := V) (b := rec j) ⟨hV0, hV1⟩ hgj.1
   have hts : gvals (l.take (k + 1)) = gvals (l.take k) ++ [.int .i64 (rec j)] := by
    rw [List.take_add_one, hly]
    simp [gvals]
   have HNX := Lh hnx
   have HGA := Lh hga
   have HTS := Lh hts
   have HGJ := Lh hgj
   have HRJ := Lh hrj
   have HO := Lh hown2
   have HBE := Lh hbel
   clear hj hjm hly hgj hKJ hrj hnx hga hts hown2 hbel
   go_wp2_with fail
   refine HRJ.out.mono ?_
   rintro e w2 ⟨rfl, hb2⟩
   have HO2 := Lh ((Frm.of_below (B := 0) (T := []) hb2 (Nat.zero_le _)).own HO.out (by simp))
   have HB2 := Lh (HBE.out.trans (hb2.mono hzr))
   have hzz := HB2.out.size
   clear hb2
   go_wp2_with (at_builtin; go_loud (refine wpList_append1 i64_el rfl _ _ rfl w1.heap.size w2 [.int .i64 (rec j)] rfl _ _ _ rfl HO2.out rfl rfl (by simp [Value.oneCell']) (by unfold maxLen; omega) (by omega) hzz ?_; intro v2 w3 hown3 hg3; obtain ⟨A6, c6, rfl⟩ := own_form hown3; have QB := Lh (Below.of_own HB2.out HO2.out hg3 (Nat.le_refl _) hzz); have QO := Lh hown3; clear hown3 hg3))
   refine (plusN_any V (rec j) _ ⟨hV0, hV1⟩ HGJ.out).mono ?_
   rintro e w4 ⟨rfl, rfl⟩
   go_wp2_with fail
   go_roundw
   case rel =>
    refine ⟨k + 1, gadd V (rec j), by omega, by go_num, rfl, HGA.out.1, HGA.out.2, HNX.out.symm, ?_, QB.out⟩
    have h := QO.out
    rw [HTS.out]
    exact h
   case measure => (simp [intOf]; try omega)
  ·have hkK : k = K := by omega
   subst hkK
   have hl2 : l.take k = l := List.take_of_length_le (by rw [HLK.out]; omega)
   have hvs := HV.out
   rw [hl2] at hown2 hvs
   have HRW := Lh hown2
   have HVS := Lh hvs
   have BE := Lh (HBW.out.trans (hbel.mono hsz))
   have hbk := HBB.out.below hbel (by omega)
   have d0 : wr.cell? ⟨w.heap.size, 0, none⟩ = some (.int .i8 x.op) := hbk.cell 0
   have d2 : wr.cell? ⟨w.heap.size, 2, none⟩ = some (.int .i64 x.n) := hbk.cell 2
   clear hown2 hvs hbel hbk hl2 HV HRC HIN HKI HBA HBN
   rcases hop with hop | hop | hop | hop | hop | hop | hop | hop
   ·skip
    rw [hop] at d0
    have hr : R = gadd V 3 := by have h := HR.out; unfold gasR at h; simp [hop, ← HVS.out] at h; exact h
    clear hop
    go_wp2_with fail
    refine (plusN_any V 3 _ ⟨hV0, hV1⟩ (num_gas (k := 3) (by omega) (by omega))).mono ?_
    rintro e w6 ⟨rfl, rfl⟩
    go_wp2_with fail
    go_ret
    exact ⟨ret_i64 hr.symm, BE.out⟩
   ·skip
    rw [hop] at d0
    have hr : R = gadd V 3 := by have h := HR.out; unfold gasR at h; simp [hop, ← HVS.out] at h; exact h
    clear hop
    go_wp2_with fail
    refine (plusN_any V 3 _ ⟨hV0, hV1⟩ (num_gas (k := 3) (by omega) (by omega))).mono ?_
    rintro e w6 ⟨rfl, rfl⟩
    go_wp2_with fail
    go_ret
    exact ⟨ret_i64 hr.symm, BE.out⟩
   ·skip
    rw [hop] at d0
    have hr : R = gadd V 2 := by have h := HR.out; unfold gasR at h; simp [hop, ← HVS.out] at h; exact h
    clear hop
    go_wp2_with fail
    refine (plusN_any V 2 _ ⟨hV0, hV1⟩ (num_gas (k := 2) (by omega) (by omega))).mono ?_
    rintro e w6 ⟨rfl, rfl⟩
    go_wp2_with fail
    go_ret
    exact ⟨ret_i64 hr.symm, BE.out⟩
   ·skip
    rw [hop] at d0
    have hr : R = gadd V (costN 0 x.n c) := by have h := HR.out; unfold gasR at h; simp [hop, ← HVS.out] at h; exact h
    clear hop
    go_wp2_with fail
    refine (costN_any 0 x.n c _ (by omega) h0 h1).mono ?_
    rintro e w5 ⟨rfl, rfl⟩
    go_wp2_with fail
    refine (plusN_any V (costN 0 x.n c) _ ⟨hV0, hV1⟩ (costN_gas _ _ h0 h1)).mono ?_
    rintro e w6 ⟨rfl, rfl⟩
    go_wp2_with fail
    go_ret
    exact ⟨ret_i64 hr.symm, BE.out⟩
   ·skip
    rw [hop] at d0
    have hr : R = gadd V (costN 1 x.n c) := by have h := HR.out; unfold gasR at h; simp [hop, ← HVS.out] at h; exact h
    clear hop
    go_wp2_with fail
    refine (costN_any 1 x.n c _ (by omega) h0 h1).mono ?_
    rintro e w5 ⟨rfl, rfl⟩
    go_wp2_with fail
    refine (plusN_any V (costN 1 x.n c) _ ⟨hV0, hV1⟩ (costN_gas _ _ h0 h1)).mono ?_
    rintro e w6 ⟨rfl, rfl⟩
    go_wp2_with fail
    go_ret
    exact ⟨ret_i64 hr.symm, BE.out⟩
   ·skip
    rw [hop] at d0
    have hr : R = gadd V (costN 2 x.n c) := by have h := HR.out; unfold gasR at h; simp [hop, ← HVS.out] at h; exact h
    clear hop
    go_wp2_with fail
    refine (costN_any 2 x.n c _ (by omega) h0 h1).mono ?_
    rintro e w5 ⟨rfl, rfl⟩
    go_wp2_with fail
    refine (plusN_any V (costN 2 x.n c) _ ⟨hV0, hV1⟩ (costN_gas _ _ h0 h1)).mono ?_
    rintro e w6 ⟨rfl, rfl⟩
    go_wp2_with fail
    go_ret
    exact ⟨ret_i64 hr.symm, BE.out⟩
   ·skip
    rw [hop] at d0
    have hr : R = 0 := by have h := HR.out; unfold gasR at h; simp [hop] at h; exact h
    clear hop
    go_wp2_with fail
    go_ret
    exact ⟨ret_i64 hr.symm, BE.out⟩
   ·skip
    rw [hop] at d0
    have hr : R = 0 := by have h := HR.out; unfold gasR at h; simp [hop] at h; exact h
    clear hop
    go_wp2_with fail
    go_ret
    exact ⟨ret_i64 hr.symm, BE.out⟩
end Go.Proofs.Ytggibiodeecljaa
namespace Go.Proofs.Ytggibiodeecljaa
open Go.RowKit
set_option linter.unusedVariables false
set_option maxRecDepth 100000 in
set_option maxHeartbeats 3200000 in
theorem node18_e (tb toff cap : Nat) (ts : List Node) (i : Nat) (x : Node) (c : Int) (rec : Nat → Int) (w : World) (hl : ts.length ≤ 2000) (hi : i < ts.length) (hbe : 0 ≤ behind ts i) (hx : ts[i]? = some x) (htb : tb < w.heap.size) (hn : NodesAt w tb toff ts)
  (h0 : 1 ≤ c) (h1 : c ≤ 256) (ha : arityB x (kidsOf ts i).length = true)
  (hr : ∀ j ∈ kidsOf ts i, ∀ wx, tb < wx.heap.size → NodesAt wx tb toff ts → Calls Try.prog 50 #[.slice (some ⟨tb, toff, none⟩) ts.length cap, .int .i64 j, .int .i64 c] wx fun e w' => e = .returned (.int .i64 (rec j)) ∧ Below wx.heap.size wx w')
  (hg : ∀ j ∈ kidsOf ts i, IsGas (rec j)) (hop : x.op ≠ 10 ∧ x.op ≠ 11 ∧ x.op ≠ 12 ∧ x.op ≠ 13 ∧ x.op ≠ 14 ∧ x.op ≠ 15 ∧ x.op ≠ 16 ∧ x.op ≠ 17 ∧ x.op ≠ 18 ∧ x.op ≠ 30 ∧ x.op ≠ 31 ∧ x.op ≠ 32 ∧ x.op ≠ 33 ∧ x.op ≠ 34 ∧ x.op ≠ 35 ∧ x.op ≠ 39 ∧ x.op ≠ 36 ∧ x.op ≠ 37 ∧ x.op ≠ 49 ∧ x.op ≠ 50 ∧ x.op ≠ 19 ∧ x.op ≠ 51 ∧ x.op ≠ 52) :
  Calls Try.prog 50 #[.slice (some ⟨tb, toff, none⟩) ts.length cap, .int .i64 i, .int .i64 c] w fun e w' => e = .returned (.int .i64 (gasR x ((kidsOf ts i).map rec) c)) ∧ Below w.heap.size w w' := by
 obtain ⟨l, hl0⟩ : ∃ l, l = (kidsOf ts i).map rec := ⟨_, rfl⟩
 have hlg : ∀ y ∈ l, IsGas y := fun y hy => by
  rw [hl0] at hy
  obtain ⟨j, hj, rfl⟩ := List.mem_map.1 hy
  exact hg j hj
 have hla : ∀ k j, (kidsOf ts i)[k]? = some j → l[k]? = some (rec j) := fun k j h => by rw [hl0, List.getElem?_map, h]; rfl
 obtain ⟨K, hK⟩ : ∃ K, (kidsOf ts i).length = K := ⟨_, rfl⟩
 have hlk : l.length = K := by rw [hl0, List.length_map, hK]
 rw [← hl0]
 rw [hK] at ha
 obtain ⟨R, hR⟩ : ∃ R, R = gasR x l c := ⟨_, rfl⟩
 rw [← hR]
 have hK9 : K ≤ 100000 := by rw [← hK]; exact kidsOf_le hbe (by omega)
 obtain ⟨c0, c1, c2, c3, c4, c5, c6⟩ := hn.all hx
 have hba : Below w.heap.size w (w.alloc (.cells #[.int .i8 x.op, .int .i8 x.kind, .int .i64 x.n, .int .i64 x.m, .string x.text, .int .i64 x.pos, .int .i64 x.kids] 42)) := (Below.refl _ _).alloc (Nat.le_refl _) _
 have hki := kids9_any (some ⟨tb, toff, none⟩) ts cap i (w.alloc (.cells #[.int .i8 x.op, .int .i8 x.kind, .int .i64 x.n, .int .i64 x.m, .string x.text, .int .i64 x.pos, .int .i64 x.kids] 42)) (by omega) (.inr ⟨tb, toff, rfl, by simp; omega, hn.below hba htb⟩) hi
 rw [hK] at hki
 have hiI : (i : Int) < ts.length := by omega
 have HKI := Lh hki
 have HBA := Lh hba
 have HN := Lh hn
 have HK := Lh hK
 have HLK := Lh hlk
 have HLA := Lh hla
 have HLG := Lh hlg
 have HG := Lh hg
 have HRC := Lh hr
 have HR := Lh hR
 have HA := Lh ha
 have HBN := Lh (Blk.new w 42 #[.int .i8 x.op, .int .i8 x.kind, .int .i64 x.n, .int .i64 x.m, .string x.text, .int .i64 x.pos, .int .i64 x.kids])
 clear hki hba hn hK hlk hla hlg hg hr hR ha hl0 hx hbe
 go_enter Try.func50, Try.ntmps50
 go_wp2_with fail
 refine HKI.out.mono ?_
 rintro e w1 ⟨kv, rfl, hown, hb1⟩
 obtain ⟨Ak, ck, rfl⟩ := own_form hown
 have hbw : Below w.heap.size w w1 := HBA.out.trans (hb1.mono (by simp))
 have hnd : NodesAt w1 tb toff ts := HN.out.below hbw htb
 have hbn := HBN.out.below hb1 (by simp)
 have hsz := hbw.size
 have hsz2 := hb1.size
 simp only [World.size_alloc] at hsz2
 have hin := (own_ints hown).1
 have HIN := Lh hin
 have HBW := Lh hbw
 have HND := Lh hnd
 have HBB := Lh hbn
 clear hown hb1 hbw hnd hbn hin
 go_wp2_with fail
 go_loopw [9, 10, 11, 12] (fun lv sv iv _ wr => ∃ (k : Nat) (V : Int), k ≤ K ∧ iv = .int .i64 k ∧ sv = .int .i64 V ∧ 0 ≤ V ∧ V ≤ 4611686018427387904 ∧ Hid (V = (l.take k).foldl gadd 0) ∧ wr.ownsRow w1.heap.size 2 1 lv k (gvals (l.take k)) ∧ Below w1.heap.size w1 wr)
  (fun _ _ iv _ _ => K - (intOf iv).toNat)
 case atStart => exact ⟨0, 0, by omega, rfl, rfl, by omega, by omega, rfl, World.ownsRow_nil _ _ _ _, Below.refl _ _⟩
 case round =>
  obtain ⟨k, V, hk, rfl, rfl, hV0, hV1, HV, hown2, hbel⟩ := hrel
  obtain ⟨A9, c9, rfl⟩ := own_form hown2
  have hzr := hbel.size
  by_cases hlt : k < K
  ·obtain ⟨j, hj⟩ : ∃ j, (kidsOf ts i)[k]? = some j := ⟨_, List.getElem?_eq_getElem (by rw [HK.out]; exact hlt)⟩
   have hjm := List.mem_of_getElem? hj
   have hly := HLA.out k j hj
   have hgj := HG.out j hjm
   have hKJ : ((kidsOf ts i).map (fun j : Nat => (j : Int)))[k]? = some (j : Int) := by rw [List.getElem?_map, hj]; rfl
   obtain ⟨b, o, rfl, hbs, hcj⟩ := HIN.out k _ hKJ
   have hcj : wr.cell? ⟨b, o + k, none⟩ = some (.int .i64 j) := (hbel.cell (p := ⟨b, o + k, none⟩) hbs).trans hcj
   have hrj := HRC.out j hjm wr (by omega) (HND.out.below hbel (by omega))
   have hnx := foldl_take_succ l 0 k (rec j) hly
   rw [← HV.out] at hnx
   have hga := gadd_gas (a := V) (b := rec j) ⟨hV0, hV1⟩ hgj.1
   have hts : gvals (l.take (k + 1)) = gvals (l.take k) ++ [.int .i64 (rec j)] := by
    rw [List.take_add_one, hly]
    simp [gvals]
   have HNX := Lh hnx
   have HGA := Lh hga
   have HTS := Lh hts
   have HGJ := Lh hgj
   have HRJ := Lh hrj
   have HO := Lh hown2
   have HBE := Lh hbel
   clear hj hjm hly hgj hKJ hrj hnx hga hts hown2 hbel
   go_wp2_with fail
   refine HRJ.out.mono ?_
   rintro e w2 ⟨rfl, hb2⟩
   have HO2 := Lh ((Frm.of_below (B := 0) (T := []) hb2 (Nat.zero_le _)).own HO.out (by simp))
   have HB2 := Lh (HBE.out.trans (hb2.mono hzr))
   have hzz := HB2.out.size
   clear hb2
   go_wp2_with (at_builtin; go_loud (refine wpList_append1 i64_el rfl _ _ rfl w1.heap.size w2 [.int .i64 (rec j)] rfl _ _ _ rfl HO2.out rfl rfl (by simp [Value.oneCell']) (by unfold maxLen; omega) (by omega) hzz ?_; intro v2 w3 hown3 hg3; obtain ⟨A6, c6, rfl⟩ := own_form hown3; have QB := Lh (Below.of_own HB2.out HO2.out hg3 (Nat.le_refl _) hzz); have QO := Lh hown3; clear hown3 hg3))
   refine (plusN_any V (rec j) _ ⟨hV0, hV1⟩ HGJ.out).mono ?_
   rintro e w4 ⟨rfl, rfl⟩
   go_wp2_with fail
   go_roundw
   case rel =>
    refine ⟨k + 1, gadd V (rec j), by omega, by go_num, rfl, HGA.out.1, HGA.out.2, HNX.out.symm, ?_, QB.out⟩
    have h := QO.out
    rw [HTS.out]
    exact h
   case measure => (simp [intOf]; try omega)
  ·have hkK : k = K := by omega
   subst hkK
   have hl2 : l.take k = l := List.take_of_length_le (by rw [HLK.out]; omega)
   have hvs := HV.out
   rw [hl2] at hown2 hvs
   have HRW := Lh hown2
   have HVS := Lh hvs
   have BE := Lh (HBW.out.trans (hbel.mono hsz))
   have hbk := HBB.out.below hbel (by omega)
   have d0 : wr.cell? ⟨w.heap.size, 0, none⟩ = some (.int .i8 x.op) := hbk.cell 0
   have d2 : wr.cell? ⟨w.heap.size, 2, none⟩ = some (.int .i64 x.n) := hbk.cell 2
   clear hown2 hvs hbel hbk hl2 HV HRC HIN HKI HBA HBN
   obtain ⟨n10, n11, n12, n13, n14, n15, n16, n17, n18, n30, n31, n32, n33, n34, n35, n39, n36, n37, n49, n50, n19, n51, n52⟩ := hop
   have q10 : (x.op == 10) = false := beq_false_of n10
   have q11 : (x.op == 11) = false := beq_false_of n11
   have q12 : (x.op == 12) = false := beq_false_of n12
   have q13 : (x.op == 13) = false := beq_false_of n13
   have q14 : (x.op == 14) = false := beq_false_of n14
   have q15 : (x.op == 15) = false := beq_false_of n15
   have q16 : (x.op == 16) = false := beq_false_of n16
   have q17 : (x.op == 17) = false := beq_false_of n17
   have q18 : (x.op == 18) = false := beq_false_of n18
   have q30 : (x.op == 30) = false := beq_false_of n30
   have q31 : (x.op == 31) = false := beq_false_of n31
   have q32 : (x.op == 32) = false := beq_false_of n32
   have q33 : (x.op == 33) = false := beq_false_of n33
   have q34 : (x.op == 34) = false := beq_false_of n34
   have q35 : (x.op == 35) = false := beq_false_of n35
   have q39 : (x.op == 39) = false := beq_false_of n39
   have q36 : (x.op == 36) = false := beq_false_of n36
   have q37 : (x.op == 37) = false := beq_false_of n37
   have q49 : (x.op == 49) = false := beq_false_of n49
   have q50 : (x.op == 50) = false := beq_false_of n50
   have q19 : (x.op == 19) = false := beq_false_of n19
   have q51 : (x.op == 51) = false := beq_false_of n51
   have q52 : (x.op == 52) = false := beq_false_of n52
   have hr : R = gadd V 1 := by have h := HR.out; unfold gasR at h; simp [n10, n11, n12, n13, n14, n15, n16, n17, n18, n30, n31, n32, n33, n34, n35, n39, n36, n37, n49, n50, n19, n51, n52] at h; rw [← HVS.out] at h; exact h
   clear n10 n11 n12 n13 n14 n15 n16 n17 n18 n30 n31 n32 n33 n34 n35 n39 n36 n37 n49 n50 n19 n51 n52
   go_wp2_with fail
   refine (plusN_any V 1 _ ⟨hV0, hV1⟩ (num_gas (k := 1) (by omega) (by omega))).mono ?_
   rintro e w6 ⟨rfl, rfl⟩
   go_wp2_with fail
   go_ret
   exact ⟨ret_i64 hr.symm, BE.out⟩
end Go.Proofs.Ytggibiodeecljaa
