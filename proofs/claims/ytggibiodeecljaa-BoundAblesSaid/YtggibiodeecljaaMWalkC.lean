/- walk.node, an if. Written by gen_walk.py. walk.node, a choose. Written by gen_walk.py. walk.node, an each. Written by gen_walk.py. -/
import Derived.Test.YtggibiodeecljaaMWalk
import Derived.Test.YtggibiodeecljaaExpr4
namespace Go.Proofs.Ytggibiodeecljaa
open Go.RowKit
set_option linter.unusedVariables false
set_option maxRecDepth 100000 in
set_option maxHeartbeats 2000000 in
theorem node_if (wb tb toff cap : Nat) (ts : List Node) (c : Int) (hne : tb ≠ wb) (hl : ts.length ≤ 100000) (hc0 : 1 ≤ c) (hc1 : c ≤ 256) (i : Nat) (x : Node) (hi : i < ts.length) (hx : ts[i]? = some x) (hbe : 0 ≤ behind ts i) (r : Nat → Int) (w : World)
  (hw : Blk w wb 85 #[.slice (some ⟨tb, toff, none⟩) ts.length cap, .int .i64 i, .int .i64 c]) (hn : NodesAt w tb toff ts) (htb : tb < w.heap.size)
  (hr : ∀ j ∈ kidsOf ts i, NodeAtW wb tb toff cap ts c (r j) j ∧ IsGas (r j)) (hop : x.op = 13) (hk2 : 2 ≤ (kidsOf ts i).length) :
  Calls Try.prog 47 #[.pointer (some ⟨wb, 0, none⟩)] w fun e w' => e = .returned (.int .i64 (gasF x ((kidsOf ts i).map r) c)) ∧
   Blk w' wb 85 #[.slice (some ⟨tb, toff, none⟩) ts.length cap, .int .i64 (behind ts i), .int .i64 c] ∧ w.grownBy w' (some wb) := by
 obtain ⟨n0, n1, n2, n3, n4, n5, n6⟩ := hn.all hx
 have W0 := hw.cell 0
 have W1 := hw.cell 1
 have W2 := hw.cell 2
 have W3 := hw.frozen 1
 have hwb := hw.lt
 obtain ⟨K, hK, hKl⟩ := kids_count hx hbe
 rw [hK] at n6
 have hKb : K ≤ 100000 := by rw [← hKl]; exact kidsOf_le hbe hl
 have hmk := fun wx => run_make_row' (P := Try.prog) 145 86 (.int .i64 0) 8 Try.underlying145 infoGas rfl .i64 .i64 K (by omega) (by omega) wx
 simp only [made_gvals] at hmk
 have ecells : (.cells #[.int .i8 x.op, .int .i8 x.kind, .int .i64 x.n, .int .i64 x.m, .string x.text, .int .i64 x.pos, .int .i64 (K : Int)] 42 : Obj) = .cells x.cells.toArray 42 := by simp [Node.cells, hK]
 have hst := gc_start (K := K) (x := x) hw hn htb hne ecells rfl
 have HST := Lh hst
 have HN := Lh hn
 have HR := Lh hr
 have HX := Lh hx
 have HKL := Lh hKl
 rw [hKl] at hk2
 have HCH := Lh (kidsOf_chain hbe)
 obtain ⟨R, hRR⟩ : ∃ R, R = gasF x ((kidsOf ts i).map r) c := ⟨_, rfl⟩
 rw [← hRR]
 have HRR := Lh hRR
 obtain ⟨EN, hEN⟩ : ∃ EN, EN = behind ts i := ⟨_, rfl⟩
 rw [← hEN]
 have HEN := Lh hEN
 have HBE := Lh hbe
 have hneq : tb ≠ w.heap.size := by omega
 have hneq2 : wb ≠ w.heap.size := by omega
 generalize hZ : (gvals (List.replicate K 0)).toArray = Z at hmk
 have HZ := Lh hZ
 clear hw hn hr hx hKl hst ecells hRR hEN hbe hK hZ
 have q51 : (x.op == 51) = false := beq_false_of (by omega)
 have q52 : (x.op == 52) = false := beq_false_of (by omega)
 have q10 : (x.op == 10) = false := beq_false_of (by omega)
 have q13 : (x.op == 13) = true := beq_true_of hop
 have HOP := Lh hop
 clear hop
 go_enter Try.func47, Try.ntmps47
 go_wp2_with fail
 go_region_held3 (fun w' => w'.cell? ⟨wb, 0, none⟩ = some (.slice (some ⟨tb, toff, none⟩) ts.length cap) ∧ w'.cell? ⟨wb, 1, none⟩ = some (.int .i64 i) ∧ w'.cell? ⟨tb, toff + i * 7, none⟩ = some (.int .i8 x.op) ∧ w'.cell? ⟨tb, toff + i * 7 + 1, none⟩ = some (.int .i8 x.kind) ∧ w'.cell? ⟨tb, toff + i * 7 + 2, none⟩ = some (.int .i64 x.n) ∧ w'.cell? ⟨tb, toff + i * 7 + 3, none⟩ = some (.int .i64 x.m) ∧ w'.cell? ⟨tb, toff + i * 7 + 4, none⟩ = some (.string x.text) ∧ w'.cell? ⟨tb, toff + i * 7 + 5, none⟩ = some (.int .i64 x.pos) ∧ w'.cell? ⟨tb, toff + i * 7 + 6, none⟩ = some (.int .i64 K)) (first | exact ⟨W0, W1, n0, n1, n2, n3, n4, n5, n6⟩ | go_keep) (skip)
 go_wp2_with fail
 go_loopw [6, 34] (fun _ iv wr => ∃ (k p : Nat) (cells : List Int) (S : Int), k ≤ K ∧ iv = .int .i64 k ∧ Hid (Chain ts p (behind ts i).toNat ((kidsOf ts i).drop k)) ∧ Hid (cells.take k = ((kidsOf ts i).map r).take k) ∧ Hid (S = (((kidsOf ts i).map r).take k).foldl gadd 0) ∧
   GC w wb tb toff cap ts c p x w.heap.size (w.heap.size + 1) (w.heap.size + 1 + 1) (w.heap.size + 1 + 1 + 1) K cells S wr)
  (fun _ iv _ => K - (intOf iv).toNat)
 case atStart =>
  refine ⟨0, i + 1, List.replicate K 0, 0, by omega, rfl, HCH.out, by simp [Hid], by simp [Hid], ?_⟩
  have h := HST.out
  rw [HZ.out] at h
  exact h
 case round =>
  obtain ⟨k, p, cells, S, hk, rfl, HC, HT, HS, hG⟩ := hrel
  by_cases hlt : k < K
  ·obtain ⟨j, hj⟩ : ∃ j, (kidsOf ts i)[k]? = some j := ⟨_, List.getElem?_eq_getElem (by rw [HKL.out]; exact hlt)⟩
   have hdrop : (kidsOf ts i).drop k = j :: (kidsOf ts i).drop (k + 1) := by
    obtain ⟨h2, h3⟩ := List.getElem?_eq_some_iff.1 hj
    rw [List.drop_eq_getElem_cons h2, h3]
   have hC1 := HC.out
   rw [hdrop] at hC1
   obtain ⟨rfl, g1, g2, g3⟩ := hC1
   obtain ⟨hnode, hgas⟩ := HR.out j (List.mem_of_getElem? hj)
   have hbj : (behind ts j) = ((behind ts j).toNat : Int) := (Int.toNat_of_nonneg g1).symm
   obtain ⟨q, hq⟩ : ∃ q, (behind ts j).toNat = q := ⟨_, rfl⟩
   rw [hq] at hbj g3
   have hSg : IsGas S := by
    rw [HS.out]
    refine foldl_gas _ _ zero_gas fun y hy => ?_
    obtain ⟨j2, hj2, rfl⟩ := List.mem_map.1 (List.mem_of_mem_take hy)
    exact (HR.out j2 hj2).2
   have htk : ((kidsOf ts i).map r).take (k + 1) = ((kidsOf ts i).map r).take k ++ [r j] := by
    rw [List.take_add_one, List.getElem?_map, hj]; rfl
   have hcl := hG.len
   obtain ⟨C0, C2, CX, CS, CW⟩ := hG.cells_
   have hkI : (k : Int) < K := by omega
   have hGw := hG.drew.bw
   have HND := Lh hnode
   have HGA := Lh hgas
   have HSG := Lh hSg
   have HTK := Lh htk
   have HG3 := Lh g3
   have HBJ := Lh hbj
   have HG := Lh hG
   clear hnode hgas hSg htk g3 hbj hdrop hG hGw C0 C2 CS CW
   obtain ⟨V, hV⟩ : ∃ V, V = r j := ⟨_, rfl⟩
   have HV := Lh hV
   rw [← hV] at HND HGA HTK
   clear hV hj hq
   go_wp2_with fail
   go_region_held3 (fun w' => w'.cell? ⟨w.heap.size + 1 + 1, 0, none⟩ = some (.slice (some ⟨w.heap.size + 1, 0, none⟩) K K)) (first | exact CX | exact CX2 | go_keep) ((first | (go_at_call 47; refine (HND.out _ HG.out.drew.bw HG.out.drew.nodes (Nat.lt_of_lt_of_le HG.out.htb HG.out.drew.gr.size)).mono ?_; rintro e w2 ⟨rfl, hb2, hg2⟩; rw [HBJ.out] at hb2; have G2 := Lh (HG.out.drew.went q hb2 hg2); have CX2 := G2.out.cells_.2.2.1; have CK := G2.out.at_ k hlt; have CZ := G2.out.bl.frozen k; clear hb2 hg2)))
   have G3 := Lh (G2.out.setCost k V)
   have hadd := add_any (w.heap.size + 1 + 1 + 1) w2.heap.size 0 1 1 S [V] _ rfl (by omega) (G3.out.alloc (.cells #[.int .i64 V] 86)).bs (by have := gone (w2.setCell ⟨w.heap.size + 1, k, none⟩ (.int .i64 V)) V; simpa using this) (by have h1 := G2.out.bs.lt; omega) (by simp) HSG.out (by intro y hy; simp at hy; subst hy; exact HGA.out)
   have HADD := Lh hadd
   clear hadd
   go_wp2_with fail
   refine HADD.out.mono ?_
   rintro e w3 ⟨rfl, hb3, hg3⟩
   have G4 := Lh ((G3.out.alloc _).sum hb3 hg3)
   clear hb3 hg3
   go_wp2_with fail
   go_roundw
   case rel =>
    refine ⟨k + 1, q, cells.set k V, gadd S V, by omega, by go_num, HG3.out, ?_, ?_, G4.out⟩
    ·show _ = _
     rw [HTK.out, take_set_succ _ _ _ (by omega)]
     exact congrArg (· ++ [V]) HT.out
    ·show _ = _
     rw [HTK.out, List.foldl_append, ← HS.out]
     rfl
   case measure => (simp [intOf]; try omega)
  ·have hkK : k = K := by omega
   have hcells : cells = (kidsOf ts i).map r := by
    have h1 := HT.out
    rw [List.take_of_length_le (by have := hG.len; omega), List.take_of_length_le (by rw [List.length_map, HKL.out]; omega)] at h1
    exact h1
   have hS : S = ((kidsOf ts i).map r).foldl gadd 0 := by
    rw [HS.out, List.take_of_length_le (by rw [List.length_map, HKL.out]; omega)]
   have hp : (p : Int) = EN := by
    have h1 := HC.out
    rw [List.drop_of_length_le (by rw [HKL.out]; omega)] at h1
    simp only [Chain] at h1
    rw [HEN.out, h1]
    exact Int.toNat_of_nonneg HBE.out
   rw [hp] at hG
   subst hcells hkK
   obtain ⟨L, hL⟩ : ∃ L, L = (kidsOf ts i).map r := ⟨_, rfl⟩
   rw [← hL] at hG hS HRR
   have hLg : ∀ y ∈ L, IsGas y := by
    rw [hL]
    intro y hy
    obtain ⟨j2, hj2, rfl⟩ := List.mem_map.1 hy
    exact (HR.out j2 hj2).2
   have hSg : IsGas S := by rw [hS]; exact foldl_gas _ _ zero_gas hLg
   have hLK := hG.len
   obtain ⟨C0, C2, CX, CS, CW⟩ := hG.cells_
   have HLG := Lh hLg
   have HSG := Lh hSg
   have HSS := Lh hS
   have HLL := Lh hL
   have HLK := Lh hLK
   have G0 := Lh hG
   clear hLg hSg hS hL hLK hG hp HC HT HS
   obtain ⟨l0, hl0⟩ : ∃ l, l = L.getD 0 0 := ⟨_, rfl⟩
   have HL0 := Lh hl0
   have D0 := G0.out.at_ 0 (by omega)
   rw [← hl0] at D0
   have hlg0 : IsGas l0 := by rw [hl0]; exact getD_gas HLG.out 0
   have LG0 := Lh hlg0
   have hKI0 : ((0 : Nat) : Int) < k := by omega
   clear hl0 hlg0
   obtain ⟨l1, hl1⟩ : ∃ l, l = L.getD 1 0 := ⟨_, rfl⟩
   have HL1 := Lh hl1
   have D1 := G0.out.at_ 1 (by omega)
   rw [← hl1] at D1
   have hlg1 : IsGas l1 := by rw [hl1]; exact getD_gas HLG.out 1
   have LG1 := Lh hlg1
   have hKI1 : ((1 : Nat) : Int) < k := by omega
   clear hl1 hlg1
   have hres : R = gadd (gadd (L.getD 0 0) 1) (gsides L (L.getD 1 0)) := by
    rw [HRR.out]
    have hop := HOP.out
    unfold gasF
    simp [hop]
   have HRES := Lh hres
   clear hres
   have G4 := Lh ((G0.out).setSum l0)
   have CSZ := (G0.out).bs.frozen 0
   have hside := sides_any (w.heap.size + 1 + 1) (w.heap.size + 1) k k (l1) L _ HLK.out (by omega) (G4.out).bx (G4.out).bl LG1.out
   have HSIDE := Lh hside
   clear hside
   go_wp2_with fail
   refine HSIDE.out.mono ?_
   rintro e w5 ⟨rfl, hb5⟩
   have G5 := Lh ((G4.out).other (gb_below hb5 none) (fun g e => by cases e))
   clear hb5 C0 C2 CX CS CW
   obtain ⟨C0, C2, CX, CS, CW⟩ := G5.out.cells_
   obtain ⟨sd, hsd⟩ : ∃ sd, sd = gsides L (l1) := ⟨_, rfl⟩
   rw [← hsd]
   have hsdg : IsGas sd := by rw [hsd]; exact gsides_gas HLG.out LG1.out
   have HSD := Lh hsd
   have SDG := Lh hsdg
   clear hsd hsdg
   have hadd6 := add_any (w.heap.size + 1 + 1 + 1) w5.heap.size 0 2 2 (l0) [1, sd] _ rfl (by omega) ((G5.out).alloc (.cells #[.int .i64 (1), .int .i64 (sd)] 86)).bs (by have := gvals_blk (l := [1, sd]) (Blk.new (w5) 86 #[.int .i64 (1), .int .i64 (sd)]); first | exact this | simpa using this) (by have h1 := (G5.out).bs.lt; (try simp at h1); omega) (by simp; try omega) LG0.out (by intro y hy; simp at hy; rcases hy with rfl | rfl; (unfold IsGas maxB; omega); exact SDG.out)
   have HADD6 := Lh hadd6
   clear hadd6
   go_wp2_with fail
   refine HADD6.out.mono ?_
   rintro e w6 ⟨rfl, hb6, hg6⟩
   have G6 := Lh (((G5.out).alloc (.cells #[.int .i64 (1), .int .i64 (sd)] 86)).sum hb6 hg6)
   clear hb6 hg6 C0 C2 CX CS CW
   obtain ⟨C0, C2, CX, CS, CW⟩ := G6.out.cells_
   go_wp2_with fail
   go_ret
   exact ⟨by rw [HRES.out, ← HL0.out, ← HL1.out, ← HSD.out]; rfl, G6.out.bw, G6.out.gr⟩
end Go.Proofs.Ytggibiodeecljaa
namespace Go.Proofs.Ytggibiodeecljaa
open Go.RowKit
set_option linter.unusedVariables false
set_option maxRecDepth 100000 in
set_option maxHeartbeats 2000000 in
theorem node_choose (wb tb toff cap : Nat) (ts : List Node) (c : Int) (hne : tb ≠ wb) (hl : ts.length ≤ 100000) (hc0 : 1 ≤ c) (hc1 : c ≤ 256) (i : Nat) (x : Node) (hi : i < ts.length) (hx : ts[i]? = some x) (hbe : 0 ≤ behind ts i) (r : Nat → Int) (w : World)
  (hw : Blk w wb 85 #[.slice (some ⟨tb, toff, none⟩) ts.length cap, .int .i64 i, .int .i64 c]) (hn : NodesAt w tb toff ts) (htb : tb < w.heap.size)
  (hr : ∀ j ∈ kidsOf ts i, NodeAtW wb tb toff cap ts c (r j) j ∧ IsGas (r j)) (hop : x.op = 16) (hk2 : 2 ≤ (kidsOf ts i).length) :
  Calls Try.prog 47 #[.pointer (some ⟨wb, 0, none⟩)] w fun e w' => e = .returned (.int .i64 (gasF x ((kidsOf ts i).map r) c)) ∧
   Blk w' wb 85 #[.slice (some ⟨tb, toff, none⟩) ts.length cap, .int .i64 (behind ts i), .int .i64 c] ∧ w.grownBy w' (some wb) := by
 obtain ⟨n0, n1, n2, n3, n4, n5, n6⟩ := hn.all hx
 have W0 := hw.cell 0
 have W1 := hw.cell 1
 have W2 := hw.cell 2
 have W3 := hw.frozen 1
 have hwb := hw.lt
 obtain ⟨K, hK, hKl⟩ := kids_count hx hbe
 rw [hK] at n6
 have hKb : K ≤ 100000 := by rw [← hKl]; exact kidsOf_le hbe hl
 have hmk := fun wx => run_make_row' (P := Try.prog) 145 86 (.int .i64 0) 8 Try.underlying145 infoGas rfl .i64 .i64 K (by omega) (by omega) wx
 simp only [made_gvals] at hmk
 have ecells : (.cells #[.int .i8 x.op, .int .i8 x.kind, .int .i64 x.n, .int .i64 x.m, .string x.text, .int .i64 x.pos, .int .i64 (K : Int)] 42 : Obj) = .cells x.cells.toArray 42 := by simp [Node.cells, hK]
 have hst := gc_start (K := K) (x := x) hw hn htb hne ecells rfl
 have HST := Lh hst
 have HN := Lh hn
 have HR := Lh hr
 have HX := Lh hx
 have HKL := Lh hKl
 rw [hKl] at hk2
 have HCH := Lh (kidsOf_chain hbe)
 obtain ⟨R, hRR⟩ : ∃ R, R = gasF x ((kidsOf ts i).map r) c := ⟨_, rfl⟩
 rw [← hRR]
 have HRR := Lh hRR
 obtain ⟨EN, hEN⟩ : ∃ EN, EN = behind ts i := ⟨_, rfl⟩
 rw [← hEN]
 have HEN := Lh hEN
 have HBE := Lh hbe
 have hneq : tb ≠ w.heap.size := by omega
 have hneq2 : wb ≠ w.heap.size := by omega
 generalize hZ : (gvals (List.replicate K 0)).toArray = Z at hmk
 have HZ := Lh hZ
 clear hw hn hr hx hKl hst ecells hRR hEN hbe hK hZ
 have q51 : (x.op == 51) = false := beq_false_of (by omega)
 have q52 : (x.op == 52) = false := beq_false_of (by omega)
 have q10 : (x.op == 10) = false := beq_false_of (by omega)
 have q13 : (x.op == 13) = false := beq_false_of (by omega)
 have q16 : (x.op == 16) = true := beq_true_of hop
 have HOP := Lh hop
 clear hop
 go_enter Try.func47, Try.ntmps47
 go_wp2_with fail
 go_region_held3 (fun w' => w'.cell? ⟨wb, 0, none⟩ = some (.slice (some ⟨tb, toff, none⟩) ts.length cap) ∧ w'.cell? ⟨wb, 1, none⟩ = some (.int .i64 i) ∧ w'.cell? ⟨tb, toff + i * 7, none⟩ = some (.int .i8 x.op) ∧ w'.cell? ⟨tb, toff + i * 7 + 1, none⟩ = some (.int .i8 x.kind) ∧ w'.cell? ⟨tb, toff + i * 7 + 2, none⟩ = some (.int .i64 x.n) ∧ w'.cell? ⟨tb, toff + i * 7 + 3, none⟩ = some (.int .i64 x.m) ∧ w'.cell? ⟨tb, toff + i * 7 + 4, none⟩ = some (.string x.text) ∧ w'.cell? ⟨tb, toff + i * 7 + 5, none⟩ = some (.int .i64 x.pos) ∧ w'.cell? ⟨tb, toff + i * 7 + 6, none⟩ = some (.int .i64 K)) (first | exact ⟨W0, W1, n0, n1, n2, n3, n4, n5, n6⟩ | go_keep) (skip)
 go_wp2_with fail
 go_loopw [6, 34] (fun _ iv wr => ∃ (k p : Nat) (cells : List Int) (S : Int), k ≤ K ∧ iv = .int .i64 k ∧ Hid (Chain ts p (behind ts i).toNat ((kidsOf ts i).drop k)) ∧ Hid (cells.take k = ((kidsOf ts i).map r).take k) ∧ Hid (S = (((kidsOf ts i).map r).take k).foldl gadd 0) ∧
   GC w wb tb toff cap ts c p x w.heap.size (w.heap.size + 1) (w.heap.size + 1 + 1) (w.heap.size + 1 + 1 + 1) K cells S wr)
  (fun _ iv _ => K - (intOf iv).toNat)
 case atStart =>
  refine ⟨0, i + 1, List.replicate K 0, 0, by omega, rfl, HCH.out, by simp [Hid], by simp [Hid], ?_⟩
  have h := HST.out
  rw [HZ.out] at h
  exact h
 case round =>
  obtain ⟨k, p, cells, S, hk, rfl, HC, HT, HS, hG⟩ := hrel
  by_cases hlt : k < K
  ·obtain ⟨j, hj⟩ : ∃ j, (kidsOf ts i)[k]? = some j := ⟨_, List.getElem?_eq_getElem (by rw [HKL.out]; exact hlt)⟩
   have hdrop : (kidsOf ts i).drop k = j :: (kidsOf ts i).drop (k + 1) := by
    obtain ⟨h2, h3⟩ := List.getElem?_eq_some_iff.1 hj
    rw [List.drop_eq_getElem_cons h2, h3]
   have hC1 := HC.out
   rw [hdrop] at hC1
   obtain ⟨rfl, g1, g2, g3⟩ := hC1
   obtain ⟨hnode, hgas⟩ := HR.out j (List.mem_of_getElem? hj)
   have hbj : (behind ts j) = ((behind ts j).toNat : Int) := (Int.toNat_of_nonneg g1).symm
   obtain ⟨q, hq⟩ : ∃ q, (behind ts j).toNat = q := ⟨_, rfl⟩
   rw [hq] at hbj g3
   have hSg : IsGas S := by
    rw [HS.out]
    refine foldl_gas _ _ zero_gas fun y hy => ?_
    obtain ⟨j2, hj2, rfl⟩ := List.mem_map.1 (List.mem_of_mem_take hy)
    exact (HR.out j2 hj2).2
   have htk : ((kidsOf ts i).map r).take (k + 1) = ((kidsOf ts i).map r).take k ++ [r j] := by
    rw [List.take_add_one, List.getElem?_map, hj]; rfl
   have hcl := hG.len
   obtain ⟨C0, C2, CX, CS, CW⟩ := hG.cells_
   have hkI : (k : Int) < K := by omega
   have hGw := hG.drew.bw
   have HND := Lh hnode
   have HGA := Lh hgas
   have HSG := Lh hSg
   have HTK := Lh htk
   have HG3 := Lh g3
   have HBJ := Lh hbj
   have HG := Lh hG
   clear hnode hgas hSg htk g3 hbj hdrop hG hGw C0 C2 CS CW
   obtain ⟨V, hV⟩ : ∃ V, V = r j := ⟨_, rfl⟩
   have HV := Lh hV
   rw [← hV] at HND HGA HTK
   clear hV hj hq
   go_wp2_with fail
   go_region_held3 (fun w' => w'.cell? ⟨w.heap.size + 1 + 1, 0, none⟩ = some (.slice (some ⟨w.heap.size + 1, 0, none⟩) K K)) (first | exact CX | exact CX2 | go_keep) ((first | (go_at_call 47; refine (HND.out _ HG.out.drew.bw HG.out.drew.nodes (Nat.lt_of_lt_of_le HG.out.htb HG.out.drew.gr.size)).mono ?_; rintro e w2 ⟨rfl, hb2, hg2⟩; rw [HBJ.out] at hb2; have G2 := Lh (HG.out.drew.went q hb2 hg2); have CX2 := G2.out.cells_.2.2.1; have CK := G2.out.at_ k hlt; have CZ := G2.out.bl.frozen k; clear hb2 hg2)))
   have G3 := Lh (G2.out.setCost k V)
   have hadd := add_any (w.heap.size + 1 + 1 + 1) w2.heap.size 0 1 1 S [V] _ rfl (by omega) (G3.out.alloc (.cells #[.int .i64 V] 86)).bs (by have := gone (w2.setCell ⟨w.heap.size + 1, k, none⟩ (.int .i64 V)) V; simpa using this) (by have h1 := G2.out.bs.lt; omega) (by simp) HSG.out (by intro y hy; simp at hy; subst hy; exact HGA.out)
   have HADD := Lh hadd
   clear hadd
   go_wp2_with fail
   refine HADD.out.mono ?_
   rintro e w3 ⟨rfl, hb3, hg3⟩
   have G4 := Lh ((G3.out.alloc _).sum hb3 hg3)
   clear hb3 hg3
   go_wp2_with fail
   go_roundw
   case rel =>
    refine ⟨k + 1, q, cells.set k V, gadd S V, by omega, by go_num, HG3.out, ?_, ?_, G4.out⟩
    ·show _ = _
     rw [HTK.out, take_set_succ _ _ _ (by omega)]
     exact congrArg (· ++ [V]) HT.out
    ·show _ = _
     rw [HTK.out, List.foldl_append, ← HS.out]
     rfl
   case measure => (simp [intOf]; try omega)
  ·have hkK : k = K := by omega
   have hcells : cells = (kidsOf ts i).map r := by
    have h1 := HT.out
    rw [List.take_of_length_le (by have := hG.len; omega), List.take_of_length_le (by rw [List.length_map, HKL.out]; omega)] at h1
    exact h1
   have hS : S = ((kidsOf ts i).map r).foldl gadd 0 := by
    rw [HS.out, List.take_of_length_le (by rw [List.length_map, HKL.out]; omega)]
   have hp : (p : Int) = EN := by
    have h1 := HC.out
    rw [List.drop_of_length_le (by rw [HKL.out]; omega)] at h1
    simp only [Chain] at h1
    rw [HEN.out, h1]
    exact Int.toNat_of_nonneg HBE.out
   rw [hp] at hG
   subst hcells hkK
   obtain ⟨L, hL⟩ : ∃ L, L = (kidsOf ts i).map r := ⟨_, rfl⟩
   rw [← hL] at hG hS HRR
   have hLg : ∀ y ∈ L, IsGas y := by
    rw [hL]
    intro y hy
    obtain ⟨j2, hj2, rfl⟩ := List.mem_map.1 hy
    exact (HR.out j2 hj2).2
   have hSg : IsGas S := by rw [hS]; exact foldl_gas _ _ zero_gas hLg
   have hLK := hG.len
   obtain ⟨C0, C2, CX, CS, CW⟩ := hG.cells_
   have HLG := Lh hLg
   have HSG := Lh hSg
   have HSS := Lh hS
   have HLL := Lh hL
   have HLK := Lh hLK
   have G0 := Lh hG
   clear hLg hSg hS hL hLK hG hp HC HT HS
   obtain ⟨l0, hl0⟩ : ∃ l, l = L.getD 0 0 := ⟨_, rfl⟩
   have HL0 := Lh hl0
   have D0 := G0.out.at_ 0 (by omega)
   rw [← hl0] at D0
   have hlg0 : IsGas l0 := by rw [hl0]; exact getD_gas HLG.out 0
   have LG0 := Lh hlg0
   have hKI0 : ((0 : Nat) : Int) < k := by omega
   clear hl0 hlg0
   obtain ⟨l1, hl1⟩ : ∃ l, l = L.getD 1 0 := ⟨_, rfl⟩
   have HL1 := Lh hl1
   have D1 := G0.out.at_ 1 (by omega)
   rw [← hl1] at D1
   have hlg1 : IsGas l1 := by rw [hl1]; exact getD_gas HLG.out 1
   have LG1 := Lh hlg1
   have hKI1 : ((1 : Nat) : Int) < k := by omega
   clear hl1 hlg1
   have hres : R = gadd (gadd (L.getD 0 0) 1) (gsides L (gadd (L.getD 1 0) 1)) := by
    rw [HRR.out]
    have hop := HOP.out
    unfold gasF
    simp [hop]
   have HRES := Lh hres
   clear hres
   have hrb := Blk.new wr 86 #[.int .i64 l1]
   have G4 := Lh ((G0.out).alloc (.cells #[.int .i64 l1] 86))
   have hadd5 := add_any wr.heap.size (wr.heap.size + 1) 0 1 1 (l1) [1] _ rfl (by omega) (hrb.alloc (.cells #[.int .i64 (1)] 86)) (by have := gvals_blk (l := [1]) (Blk.new (wr.alloc (.cells #[.int .i64 l1] 86)) 86 #[.int .i64 (1)]); simpa using this) (by omega) (by simp) LG1.out (by intro y hy; simp at hy; subst hy; unfold IsGas maxB; omega)
   have HADD5 := Lh hadd5
   clear hadd5 hrb
   go_wp2_with fail
   refine HADD5.out.mono ?_
   rintro e w5 ⟨rfl, hrb, hg5⟩
   have hsbl := G0.out.bs.lt
   have G5 := Lh ((G4.out.alloc (.cells #[.int .i64 (1)] 86)).other hg5 (fun g e => by injection e with e; right; omega))
   clear hg5 C0 C2 CX CS CW
   obtain ⟨C0, C2, CX, CS, CW⟩ := G5.out.cells_
   have hfo : ([1] : List Int).foldl gadd l1 = gadd l1 1 := rfl
   rw [hfo] at hrb
   obtain ⟨rv, hrv⟩ : ∃ rv, rv = gadd l1 1 := ⟨_, rfl⟩
   rw [← hrv] at hrb
   have hrvg : IsGas rv := by rw [hrv]; exact gadd_gas LG1.out (by omega)
   have HRV := Lh hrv
   have RVG := Lh hrvg
   have HRB := Lh hrb
   have CR := hrb.cell 0
   clear hrb hfo hrv hrvg
   clear D0
   have D0 := G5.out.at_ 0 (by omega)
   rw [← HL0.out] at D0
   clear D1
   have D1 := G5.out.at_ 1 (by omega)
   rw [← HL1.out] at D1
   have G6 := Lh ((G5.out).setSum l0)
   have CSZ := (G5.out).bs.frozen 0
   have hside := sides_any (w.heap.size + 1 + 1) (w.heap.size + 1) k k (rv) L _ HLK.out (by omega) (G6.out).bx (G6.out).bl RVG.out
   have HSIDE := Lh hside
   clear hside
   go_wp2_with fail
   refine HSIDE.out.mono ?_
   rintro e w7 ⟨rfl, hb7⟩
   have G7 := Lh ((G6.out).other (gb_below hb7 none) (fun g e => by cases e))
   clear hb7 C0 C2 CX CS CW
   obtain ⟨C0, C2, CX, CS, CW⟩ := G7.out.cells_
   obtain ⟨sd, hsd⟩ : ∃ sd, sd = gsides L (rv) := ⟨_, rfl⟩
   rw [← hsd]
   have hsdg : IsGas sd := by rw [hsd]; exact gsides_gas HLG.out RVG.out
   have HSD := Lh hsd
   have SDG := Lh hsdg
   clear hsd hsdg
   have hadd8 := add_any (w.heap.size + 1 + 1 + 1) w7.heap.size 0 2 2 (l0) [1, sd] _ rfl (by omega) ((G7.out).alloc (.cells #[.int .i64 (1), .int .i64 (sd)] 86)).bs (by have := gvals_blk (l := [1, sd]) (Blk.new (w7) 86 #[.int .i64 (1), .int .i64 (sd)]); first | exact this | simpa using this) (by have h1 := (G7.out).bs.lt; (try simp at h1); omega) (by simp; try omega) LG0.out (by intro y hy; simp at hy; rcases hy with rfl | rfl; (unfold IsGas maxB; omega); exact SDG.out)
   have HADD8 := Lh hadd8
   clear hadd8
   go_wp2_with fail
   refine HADD8.out.mono ?_
   rintro e w8 ⟨rfl, hb8, hg8⟩
   have G8 := Lh (((G7.out).alloc (.cells #[.int .i64 (1), .int .i64 (sd)] 86)).sum hb8 hg8)
   clear hb8 hg8 C0 C2 CX CS CW
   obtain ⟨C0, C2, CX, CS, CW⟩ := G8.out.cells_
   go_wp2_with fail
   go_ret
   exact ⟨by rw [HRES.out, ← HL0.out, ← HL1.out, ← HRV.out, ← HSD.out]; rfl, G8.out.bw, G8.out.gr⟩
end Go.Proofs.Ytggibiodeecljaa
namespace Go.Proofs.Ytggibiodeecljaa
open Go.RowKit
set_option linter.unusedVariables false
set_option maxRecDepth 100000 in
set_option maxHeartbeats 2000000 in
theorem node_each (wb tb toff cap : Nat) (ts : List Node) (c : Int) (hne : tb ≠ wb) (hl : ts.length ≤ 100000) (hc0 : 1 ≤ c) (hc1 : c ≤ 256) (i : Nat) (x : Node) (hi : i < ts.length) (hx : ts[i]? = some x) (hbe : 0 ≤ behind ts i) (r : Nat → Int) (w : World)
  (hw : Blk w wb 85 #[.slice (some ⟨tb, toff, none⟩) ts.length cap, .int .i64 i, .int .i64 c]) (hn : NodesAt w tb toff ts) (htb : tb < w.heap.size)
  (hr : ∀ j ∈ kidsOf ts i, NodeAtW wb tb toff cap ts c (r j) j ∧ IsGas (r j)) (hop : x.op = 15) (hk2 : 2 ≤ (kidsOf ts i).length) :
  Calls Try.prog 47 #[.pointer (some ⟨wb, 0, none⟩)] w fun e w' => e = .returned (.int .i64 (gasF x ((kidsOf ts i).map r) c)) ∧
   Blk w' wb 85 #[.slice (some ⟨tb, toff, none⟩) ts.length cap, .int .i64 (behind ts i), .int .i64 c] ∧ w.grownBy w' (some wb) := by
 obtain ⟨n0, n1, n2, n3, n4, n5, n6⟩ := hn.all hx
 have W0 := hw.cell 0
 have W1 := hw.cell 1
 have W2 := hw.cell 2
 have W3 := hw.frozen 1
 have hwb := hw.lt
 obtain ⟨K, hK, hKl⟩ := kids_count hx hbe
 rw [hK] at n6
 have hKb : K ≤ 100000 := by rw [← hKl]; exact kidsOf_le hbe hl
 have hmk := fun wx => run_make_row' (P := Try.prog) 145 86 (.int .i64 0) 8 Try.underlying145 infoGas rfl .i64 .i64 K (by omega) (by omega) wx
 simp only [made_gvals] at hmk
 have ecells : (.cells #[.int .i8 x.op, .int .i8 x.kind, .int .i64 x.n, .int .i64 x.m, .string x.text, .int .i64 x.pos, .int .i64 (K : Int)] 42 : Obj) = .cells x.cells.toArray 42 := by simp [Node.cells, hK]
 have hst := gc_start (K := K) (x := x) hw hn htb hne ecells rfl
 have HST := Lh hst
 have HN := Lh hn
 have HR := Lh hr
 have HX := Lh hx
 have HKL := Lh hKl
 rw [hKl] at hk2
 have HCH := Lh (kidsOf_chain hbe)
 obtain ⟨R, hRR⟩ : ∃ R, R = gasF x ((kidsOf ts i).map r) c := ⟨_, rfl⟩
 rw [← hRR]
 have HRR := Lh hRR
 obtain ⟨EN, hEN⟩ : ∃ EN, EN = behind ts i := ⟨_, rfl⟩
 rw [← hEN]
 have HEN := Lh hEN
 have HBE := Lh hbe
 have hneq : tb ≠ w.heap.size := by omega
 have hneq2 : wb ≠ w.heap.size := by omega
 generalize hZ : (gvals (List.replicate K 0)).toArray = Z at hmk
 have HZ := Lh hZ
 clear hw hn hr hx hKl hst ecells hRR hEN hbe hK hZ
 have q51 : (x.op == 51) = false := beq_false_of (by omega)
 have q52 : (x.op == 52) = false := beq_false_of (by omega)
 have q10 : (x.op == 10) = false := beq_false_of (by omega)
 have q13 : (x.op == 13) = false := beq_false_of (by omega)
 have q16 : (x.op == 16) = false := beq_false_of (by omega)
 have q14 : (x.op == 14) = false := beq_false_of (by omega)
 have q15 : (x.op == 15) = true := beq_true_of hop
 have HOP := Lh hop
 clear hop
 go_enter Try.func47, Try.ntmps47
 go_wp2_with fail
 go_region_held3 (fun w' => w'.cell? ⟨wb, 0, none⟩ = some (.slice (some ⟨tb, toff, none⟩) ts.length cap) ∧ w'.cell? ⟨wb, 1, none⟩ = some (.int .i64 i) ∧ w'.cell? ⟨tb, toff + i * 7, none⟩ = some (.int .i8 x.op) ∧ w'.cell? ⟨tb, toff + i * 7 + 1, none⟩ = some (.int .i8 x.kind) ∧ w'.cell? ⟨tb, toff + i * 7 + 2, none⟩ = some (.int .i64 x.n) ∧ w'.cell? ⟨tb, toff + i * 7 + 3, none⟩ = some (.int .i64 x.m) ∧ w'.cell? ⟨tb, toff + i * 7 + 4, none⟩ = some (.string x.text) ∧ w'.cell? ⟨tb, toff + i * 7 + 5, none⟩ = some (.int .i64 x.pos) ∧ w'.cell? ⟨tb, toff + i * 7 + 6, none⟩ = some (.int .i64 K)) (first | exact ⟨W0, W1, n0, n1, n2, n3, n4, n5, n6⟩ | go_keep) (skip)
 go_wp2_with fail
 go_loopw [6, 34] (fun _ iv wr => ∃ (k p : Nat) (cells : List Int) (S : Int), k ≤ K ∧ iv = .int .i64 k ∧ Hid (Chain ts p (behind ts i).toNat ((kidsOf ts i).drop k)) ∧ Hid (cells.take k = ((kidsOf ts i).map r).take k) ∧ Hid (S = (((kidsOf ts i).map r).take k).foldl gadd 0) ∧
   GC w wb tb toff cap ts c p x w.heap.size (w.heap.size + 1) (w.heap.size + 1 + 1) (w.heap.size + 1 + 1 + 1) K cells S wr)
  (fun _ iv _ => K - (intOf iv).toNat)
 case atStart =>
  refine ⟨0, i + 1, List.replicate K 0, 0, by omega, rfl, HCH.out, by simp [Hid], by simp [Hid], ?_⟩
  have h := HST.out
  rw [HZ.out] at h
  exact h
 case round =>
  obtain ⟨k, p, cells, S, hk, rfl, HC, HT, HS, hG⟩ := hrel
  by_cases hlt : k < K
  ·obtain ⟨j, hj⟩ : ∃ j, (kidsOf ts i)[k]? = some j := ⟨_, List.getElem?_eq_getElem (by rw [HKL.out]; exact hlt)⟩
   have hdrop : (kidsOf ts i).drop k = j :: (kidsOf ts i).drop (k + 1) := by
    obtain ⟨h2, h3⟩ := List.getElem?_eq_some_iff.1 hj
    rw [List.drop_eq_getElem_cons h2, h3]
   have hC1 := HC.out
   rw [hdrop] at hC1
   obtain ⟨rfl, g1, g2, g3⟩ := hC1
   obtain ⟨hnode, hgas⟩ := HR.out j (List.mem_of_getElem? hj)
   have hbj : (behind ts j) = ((behind ts j).toNat : Int) := (Int.toNat_of_nonneg g1).symm
   obtain ⟨q, hq⟩ : ∃ q, (behind ts j).toNat = q := ⟨_, rfl⟩
   rw [hq] at hbj g3
   have hSg : IsGas S := by
    rw [HS.out]
    refine foldl_gas _ _ zero_gas fun y hy => ?_
    obtain ⟨j2, hj2, rfl⟩ := List.mem_map.1 (List.mem_of_mem_take hy)
    exact (HR.out j2 hj2).2
   have htk : ((kidsOf ts i).map r).take (k + 1) = ((kidsOf ts i).map r).take k ++ [r j] := by
    rw [List.take_add_one, List.getElem?_map, hj]; rfl
   have hcl := hG.len
   obtain ⟨C0, C2, CX, CS, CW⟩ := hG.cells_
   have hkI : (k : Int) < K := by omega
   have hGw := hG.drew.bw
   have HND := Lh hnode
   have HGA := Lh hgas
   have HSG := Lh hSg
   have HTK := Lh htk
   have HG3 := Lh g3
   have HBJ := Lh hbj
   have HG := Lh hG
   clear hnode hgas hSg htk g3 hbj hdrop hG hGw C0 C2 CS CW
   obtain ⟨V, hV⟩ : ∃ V, V = r j := ⟨_, rfl⟩
   have HV := Lh hV
   rw [← hV] at HND HGA HTK
   clear hV hj hq
   go_wp2_with fail
   go_region_held3 (fun w' => w'.cell? ⟨w.heap.size + 1 + 1, 0, none⟩ = some (.slice (some ⟨w.heap.size + 1, 0, none⟩) K K)) (first | exact CX | exact CX2 | go_keep) ((first | (go_at_call 47; refine (HND.out _ HG.out.drew.bw HG.out.drew.nodes (Nat.lt_of_lt_of_le HG.out.htb HG.out.drew.gr.size)).mono ?_; rintro e w2 ⟨rfl, hb2, hg2⟩; rw [HBJ.out] at hb2; have G2 := Lh (HG.out.drew.went q hb2 hg2); have CX2 := G2.out.cells_.2.2.1; have CK := G2.out.at_ k hlt; have CZ := G2.out.bl.frozen k; clear hb2 hg2)))
   have G3 := Lh (G2.out.setCost k V)
   have hadd := add_any (w.heap.size + 1 + 1 + 1) w2.heap.size 0 1 1 S [V] _ rfl (by omega) (G3.out.alloc (.cells #[.int .i64 V] 86)).bs (by have := gone (w2.setCell ⟨w.heap.size + 1, k, none⟩ (.int .i64 V)) V; simpa using this) (by have h1 := G2.out.bs.lt; omega) (by simp) HSG.out (by intro y hy; simp at hy; subst hy; exact HGA.out)
   have HADD := Lh hadd
   clear hadd
   go_wp2_with fail
   refine HADD.out.mono ?_
   rintro e w3 ⟨rfl, hb3, hg3⟩
   have G4 := Lh ((G3.out.alloc _).sum hb3 hg3)
   clear hb3 hg3
   go_wp2_with fail
   go_roundw
   case rel =>
    refine ⟨k + 1, q, cells.set k V, gadd S V, by omega, by go_num, HG3.out, ?_, ?_, G4.out⟩
    ·show _ = _
     rw [HTK.out, take_set_succ _ _ _ (by omega)]
     exact congrArg (· ++ [V]) HT.out
    ·show _ = _
     rw [HTK.out, List.foldl_append, ← HS.out]
     rfl
   case measure => (simp [intOf]; try omega)
  ·have hkK : k = K := by omega
   have hcells : cells = (kidsOf ts i).map r := by
    have h1 := HT.out
    rw [List.take_of_length_le (by have := hG.len; omega), List.take_of_length_le (by rw [List.length_map, HKL.out]; omega)] at h1
    exact h1
   have hS : S = ((kidsOf ts i).map r).foldl gadd 0 := by
    rw [HS.out, List.take_of_length_le (by rw [List.length_map, HKL.out]; omega)]
   have hp : (p : Int) = EN := by
    have h1 := HC.out
    rw [List.drop_of_length_le (by rw [HKL.out]; omega)] at h1
    simp only [Chain] at h1
    rw [HEN.out, h1]
    exact Int.toNat_of_nonneg HBE.out
   rw [hp] at hG
   subst hcells hkK
   obtain ⟨L, hL⟩ : ∃ L, L = (kidsOf ts i).map r := ⟨_, rfl⟩
   rw [← hL] at hG hS HRR
   have hLg : ∀ y ∈ L, IsGas y := by
    rw [hL]
    intro y hy
    obtain ⟨j2, hj2, rfl⟩ := List.mem_map.1 hy
    exact (HR.out j2 hj2).2
   have hSg : IsGas S := by rw [hS]; exact foldl_gas _ _ zero_gas hLg
   have hLK := hG.len
   obtain ⟨C0, C2, CX, CS, CW⟩ := hG.cells_
   have HLG := Lh hLg
   have HSG := Lh hSg
   have HSS := Lh hS
   have HLL := Lh hL
   have HLK := Lh hLK
   have G0 := Lh hG
   clear hLg hSg hS hL hLK hG hp HC HT HS
   obtain ⟨l0, hl0⟩ : ∃ l, l = L.getD 0 0 := ⟨_, rfl⟩
   have HL0 := Lh hl0
   have D0 := G0.out.at_ 0 (by omega)
   rw [← hl0] at D0
   have hlg0 : IsGas l0 := by rw [hl0]; exact getD_gas HLG.out 0
   have LG0 := Lh hlg0
   have hKI0 : ((0 : Nat) : Int) < k := by omega
   clear hl0 hlg0
   obtain ⟨l1, hl1⟩ : ∃ l, l = L.getD 1 0 := ⟨_, rfl⟩
   have HL1 := Lh hl1
   have D1 := G0.out.at_ 1 (by omega)
   rw [← hl1] at D1
   have hlg1 : IsGas l1 := by rw [hl1]; exact getD_gas HLG.out 1
   have LG1 := Lh hlg1
   have hKI1 : ((1 : Nat) : Int) < k := by omega
   clear hl1 hlg1
   have hres : R = gadd (gadd (gadd (L.getD 0 0) 3) (c + 1)) (gtimes (gadd (L.getD 1 0) 2) c) := by
    rw [HRR.out]
    have hop := HOP.out
    unfold gasF
    simp [hop]
   have HRES := Lh hres
   clear hres
   have hrb := Blk.new wr 86 #[.int .i64 l1]
   have G4 := Lh ((G0.out).alloc (.cells #[.int .i64 l1] 86))
   have hadd5 := add_any wr.heap.size (wr.heap.size + 1) 0 1 1 (l1) [2] _ rfl (by omega) (hrb.alloc (.cells #[.int .i64 (2)] 86)) (by have := gvals_blk (l := [2]) (Blk.new (wr.alloc (.cells #[.int .i64 l1] 86)) 86 #[.int .i64 (2)]); simpa using this) (by omega) (by simp) LG1.out (by intro y hy; simp at hy; subst hy; unfold IsGas maxB; omega)
   have HADD5 := Lh hadd5
   clear hadd5 hrb
   go_wp2_with fail
   refine HADD5.out.mono ?_
   rintro e w5 ⟨rfl, hrb, hg5⟩
   have hsbl := G0.out.bs.lt
   have G5 := Lh ((G4.out.alloc (.cells #[.int .i64 (2)] 86)).other hg5 (fun g e => by injection e with e; right; omega))
   clear hg5 C0 C2 CX CS CW
   obtain ⟨C0, C2, CX, CS, CW⟩ := G5.out.cells_
   have hfo : ([2] : List Int).foldl gadd l1 = gadd l1 2 := rfl
   rw [hfo] at hrb
   obtain ⟨rv, hrv⟩ : ∃ rv, rv = gadd l1 2 := ⟨_, rfl⟩
   rw [← hrv] at hrb
   have hrvg : IsGas rv := by rw [hrv]; exact gadd_gas LG1.out (by omega)
   have HRV := Lh hrv
   have RVG := Lh hrvg
   have HRB := Lh hrb
   have CR := hrb.cell 0
   clear hrb hfo hrv hrvg
   clear D0
   have D0 := G5.out.at_ 0 (by omega)
   rw [← HL0.out] at D0
   clear D1
   have D1 := G5.out.at_ 1 (by omega)
   rw [← HL1.out] at D1
   have G6 := Lh ((G5.out).setSum l0)
   have CSZ := (G5.out).bs.frozen 0
   go_wp2_with fail
   refine (times_any rv c _ RVG.out (by omega) (by omega)).mono ?_
   rintro e w7 ⟨rfl, hw7⟩
   obtain ⟨tg, htg⟩ : ∃ tg, tg = gtimes rv c := ⟨_, rfl⟩
   rw [← htg]
   have htgg : IsGas tg := by rw [htg]; exact gtimes_gas RVG.out.1 (by omega)
   have HTG := Lh htg
   have TGG := Lh htgg
   subst hw7
   clear htg htgg
   have hadd8 := add_any (w.heap.size + 1 + 1 + 1) w5.heap.size 0 3 3 (l0) [3, c + 1, tg] _ rfl (by omega) ((G6.out).alloc (.cells #[.int .i64 (3), .int .i64 (c + 1), .int .i64 (tg)] 86)).bs (by have := gvals_blk (l := [3, c + 1, tg]) (Blk.new (w5.setCell ⟨w.heap.size + 1 + 1 + 1, 0, none⟩ (.int .i64 l0)) 86 #[.int .i64 (3), .int .i64 (c + 1), .int .i64 (tg)]); first | exact this | simpa using this) (by have h1 := (G6.out).bs.lt; (try simp at h1); omega) (by simp; try omega) LG0.out (by intro y hy; simp at hy; rcases hy with rfl | rfl | rfl; (unfold IsGas maxB; omega); (unfold IsGas maxB; omega); exact TGG.out)
   have HADD8 := Lh hadd8
   clear hadd8
   go_wp2_with fail
   refine HADD8.out.mono ?_
   rintro e w8 ⟨rfl, hb8, hg8⟩
   have G8 := Lh (((G6.out).alloc (.cells #[.int .i64 (3), .int .i64 (c + 1), .int .i64 (tg)] 86)).sum hb8 hg8)
   clear hb8 hg8 C0 C2 CX CS CW
   obtain ⟨C0, C2, CX, CS, CW⟩ := G8.out.cells_
   go_wp2_with fail
   go_ret
   exact ⟨by rw [HRES.out, ← HL0.out, ← HL1.out, ← HRV.out, ← HTG.out]; rfl, G8.out.bw, G8.out.gr⟩
end Go.Proofs.Ytggibiodeecljaa
