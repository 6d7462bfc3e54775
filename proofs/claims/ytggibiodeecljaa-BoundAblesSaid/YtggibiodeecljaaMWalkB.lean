/- walk.node, an operator. Written by gen_walk.py. walk.node, an operator. Written by gen_walk.py. walk.node, an operator. Written by gen_walk.py. -/
import Derived.Test.YtggibiodeecljaaMWalk
import Derived.Test.YtggibiodeecljaaExpr4
namespace Go.Proofs.Ytggibiodeecljaa
open Go.RowKit
set_option linter.unusedVariables false
set_option maxRecDepth 100000 in
set_option maxHeartbeats 2000000 in
theorem node_w37 (wb tb toff cap : Nat) (ts : List Node) (c : Int) (hne : tb ≠ wb) (hl : ts.length ≤ 100000) (hc0 : 1 ≤ c) (hc1 : c ≤ 256) (i : Nat) (x : Node) (hi : i < ts.length) (hx : ts[i]? = some x) (hbe : 0 ≤ behind ts i) (r : Nat → Int) (w : World)
  (hw : Blk w wb 85 #[.slice (some ⟨tb, toff, none⟩) ts.length cap, .int .i64 i, .int .i64 c]) (hn : NodesAt w tb toff ts) (htb : tb < w.heap.size)
  (hr : ∀ j ∈ kidsOf ts i, NodeAtW wb tb toff cap ts c (r j) j ∧ IsGas (r j)) (hop : x.op = 37)  :
  Calls Try.prog 47 #[.pointer (some ⟨wb, 0, none⟩)] w fun e w' => e = .returned (.int .i64 (gasF x ((kidsOf ts i).map r) c)) ∧
   Blk w' wb 85 #[.slice (some ⟨tb, toff, none⟩) ts.length cap, .int .i64 (behind ts i), .int .i64 c] ∧ w.grownBy w' (some wb) := by
 obtain ⟨n0, n1, n2, n3, n4, n5, n6⟩ := hn.all hx
 have W0 := hw.cell 0
 have W1 := hw.cell 1
 have W2 := hw.cell 2
 have W3 := hw.frozen 1
 have hwb := hw.lt
 obtain ⟨K, hK, hKl⟩ := kids_count hx hbe
 rw [hK] at n6
 have hKb : K ≤ 100000 := by rw [← hKl]; exact kidsOf_le hbe hl
 have hmk := fun wx => run_make_row' (P := Try.prog) 145 86 (.int .i64 0) 8 Try.underlying145 infoGas rfl .i64 .i64 K (by omega) (by omega) wx
 simp only [made_gvals] at hmk
 have ecells : (.cells #[.int .i8 x.op, .int .i8 x.kind, .int .i64 x.n, .int .i64 x.m, .string x.text, .int .i64 x.pos, .int .i64 (K : Int)] 42 : Obj) = .cells x.cells.toArray 42 := by simp [Node.cells, hK]
 have hst := gc_start (K := K) (x := x) hw hn htb hne ecells rfl
 have HST := Lh hst
 have HN := Lh hn
 have HR := Lh hr
 have HX := Lh hx
 have HKL := Lh hKl
 have HCH := Lh (kidsOf_chain hbe)
 obtain ⟨R, hRR⟩ : ∃ R, R = gasF x ((kidsOf ts i).map r) c := ⟨_, rfl⟩
 rw [← hRR]
 have HRR := Lh hRR
 obtain ⟨EN, hEN⟩ : ∃ EN, EN = behind ts i := ⟨_, rfl⟩
 rw [← hEN]
 have HEN := Lh hEN
 have HBE := Lh hbe
 have hneq : tb ≠ w.heap.size := by omega
 have hneq2 : wb ≠ w.heap.size := by omega
 generalize hZ : (gvals (List.replicate K 0)).toArray = Z at hmk
 have HZ := Lh hZ
 clear hw hn hr hx hKl hst ecells hRR hEN hbe hK hZ
 have q51 : (x.op == 51) = false := beq_false_of (by omega)
 have q52 : (x.op == 52) = false := beq_false_of (by omega)
 have q10 : (x.op == 10) = false := beq_false_of (by omega)
 have q13 : (x.op == 13) = false := beq_false_of (by omega)
 have q16 : (x.op == 16) = false := beq_false_of (by omega)
 have q14 : (x.op == 14) = false := beq_false_of (by omega)
 have q15 : (x.op == 15) = false := beq_false_of (by omega)
 have q49 : (x.op == 49) = false := beq_false_of (by omega)
 have q50 : (x.op == 50) = false := beq_false_of (by omega)
 have q19 : (x.op == 19) = false := beq_false_of (by omega)
 have q36 : (x.op == 36) = false := beq_false_of (by omega)
 have q37 : (x.op == 37) = true := beq_true_of hop
 have HOP := Lh hop
 clear hop
 go_enter Try.func47, Try.ntmps47
 go_wp2_with fail
 go_region_held3 (fun w' => w'.cell? ⟨wb, 0, none⟩ = some (.slice (some ⟨tb, toff, none⟩) ts.length cap) ∧ w'.cell? ⟨wb, 1, none⟩ = some (.int .i64 i) ∧ w'.cell? ⟨tb, toff + i * 7, none⟩ = some (.int .i8 x.op) ∧ w'.cell? ⟨tb, toff + i * 7 + 1, none⟩ = some (.int .i8 x.kind) ∧ w'.cell? ⟨tb, toff + i * 7 + 2, none⟩ = some (.int .i64 x.n) ∧ w'.cell? ⟨tb, toff + i * 7 + 3, none⟩ = some (.int .i64 x.m) ∧ w'.cell? ⟨tb, toff + i * 7 + 4, none⟩ = some (.string x.text) ∧ w'.cell? ⟨tb, toff + i * 7 + 5, none⟩ = some (.int .i64 x.pos) ∧ w'.cell? ⟨tb, toff + i * 7 + 6, none⟩ = some (.int .i64 K)) (first | exact ⟨W0, W1, n0, n1, n2, n3, n4, n5, n6⟩ | go_keep) (skip)
 go_wp2_with fail
 go_loopw [6, 34] (fun _ iv wr => ∃ (k p : Nat) (cells : List Int) (S : Int), k ≤ K ∧ iv = .int .i64 k ∧ Hid (Chain ts p (behind ts i).toNat ((kidsOf ts i).drop k)) ∧ Hid (cells.take k = ((kidsOf ts i).map r).take k) ∧ Hid (S = (((kidsOf ts i).map r).take k).foldl gadd 0) ∧
   GC w wb tb toff cap ts c p x w.heap.size (w.heap.size + 1) (w.heap.size + 1 + 1) (w.heap.size + 1 + 1 + 1) K cells S wr)
  (fun _ iv _ => K - (intOf iv).toNat)
 case atStart =>
  refine ⟨0, i + 1, List.replicate K 0, 0, by omega, rfl, HCH.out, by simp [Hid], by simp [Hid], ?_⟩
  have h := HST.out
  rw [HZ.out] at h
  exact h
 case round =>
  obtain ⟨k, p, cells, S, hk, rfl, HC, HT, HS, hG⟩ := hrel
  by_cases hlt : k < K
  ·obtain ⟨j, hj⟩ : ∃ j, (kidsOf ts i)[k]? = some j := ⟨_, List.getElem?_eq_getElem (by rw [HKL.out]; exact hlt)⟩
   have hdrop : (kidsOf ts i).drop k = j :: (kidsOf ts i).drop (k + 1) := by
    obtain ⟨h2, h3⟩ := List.getElem?_eq_some_iff.1 hj
    rw [List.drop_eq_getElem_cons h2, h3]
   have hC1 := HC.out
   rw [hdrop] at hC1
   obtain ⟨rfl, g1, g2, g3⟩ := hC1
   obtain ⟨hnode, hgas⟩ := HR.out j (List.mem_of_getElem? hj)
   have hbj : (behind ts j) = ((behind ts j).toNat : Int) := (Int.toNat_of_nonneg g1).symm
   obtain ⟨q, hq⟩ : ∃ q, (behind ts j).toNat = q := ⟨_, rfl⟩
   rw [hq] at hbj g3
   have hSg : IsGas S := by
    rw [HS.out]
    refine foldl_gas _ _ zero_gas fun y hy => ?_
    obtain ⟨j2, hj2, rfl⟩ := List.mem_map.1 (List.mem_of_mem_take hy)
    exact (HR.out j2 hj2).2
   have htk : ((kidsOf ts i).map r).take (k + 1) = ((kidsOf ts i).map r).take k ++ [r j] := by
    rw [List.take_add_one, List.getElem?_map, hj]; rfl
   have hcl := hG.len
   obtain ⟨C0, C2, CX, CS, CW⟩ := hG.cells_
   have hkI : (k : Int) < K := by omega
   have hGw := hG.drew.bw
   have HND := Lh hnode
   have HGA := Lh hgas
   have HSG := Lh hSg
   have HTK := Lh htk
   have HG3 := Lh g3
   have HBJ := Lh hbj
   have HG := Lh hG
   clear hnode hgas hSg htk g3 hbj hdrop hG hGw C0 C2 CS CW
   obtain ⟨V, hV⟩ : ∃ V, V = r j := ⟨_, rfl⟩
   have HV := Lh hV
   rw [← hV] at HND HGA HTK
   clear hV hj hq
   go_wp2_with fail
   go_region_held3 (fun w' => w'.cell? ⟨w.heap.size + 1 + 1, 0, none⟩ = some (.slice (some ⟨w.heap.size + 1, 0, none⟩) K K)) (first | exact CX | exact CX2 | go_keep) ((first | (go_at_call 47; refine (HND.out _ HG.out.drew.bw HG.out.drew.nodes (Nat.lt_of_lt_of_le HG.out.htb HG.out.drew.gr.size)).mono ?_; rintro e w2 ⟨rfl, hb2, hg2⟩; rw [HBJ.out] at hb2; have G2 := Lh (HG.out.drew.went q hb2 hg2); have CX2 := G2.out.cells_.2.2.1; have CK := G2.out.at_ k hlt; have CZ := G2.out.bl.frozen k; clear hb2 hg2)))
   have G3 := Lh (G2.out.setCost k V)
   have hadd := add_any (w.heap.size + 1 + 1 + 1) w2.heap.size 0 1 1 S [V] _ rfl (by omega) (G3.out.alloc (.cells #[.int .i64 V] 86)).bs (by have := gone (w2.setCell ⟨w.heap.size + 1, k, none⟩ (.int .i64 V)) V; simpa using this) (by have h1 := G2.out.bs.lt; omega) (by simp) HSG.out (by intro y hy; simp at hy; subst hy; exact HGA.out)
   have HADD := Lh hadd
   clear hadd
   go_wp2_with fail
   refine HADD.out.mono ?_
   rintro e w3 ⟨rfl, hb3, hg3⟩
   have G4 := Lh ((G3.out.alloc _).sum hb3 hg3)
   clear hb3 hg3
   go_wp2_with fail
   go_roundw
   case rel =>
    refine ⟨k + 1, q, cells.set k V, gadd S V, by omega, by go_num, HG3.out, ?_, ?_, G4.out⟩
    ·show _ = _
     rw [HTK.out, take_set_succ _ _ _ (by omega)]
     exact congrArg (· ++ [V]) HT.out
    ·show _ = _
     rw [HTK.out, List.foldl_append, ← HS.out]
     rfl
   case measure => (simp [intOf]; try omega)
  ·have hkK : k = K := by omega
   have hcells : cells = (kidsOf ts i).map r := by
    have h1 := HT.out
    rw [List.take_of_length_le (by have := hG.len; omega), List.take_of_length_le (by rw [List.length_map, HKL.out]; omega)] at h1
    exact h1
   have hS : S = ((kidsOf ts i).map r).foldl gadd 0 := by
    rw [HS.out, List.take_of_length_le (by rw [List.length_map, HKL.out]; omega)]
   have hp : (p : Int) = EN := by
    have h1 := HC.out
    rw [List.drop_of_length_le (by rw [HKL.out]; omega)] at h1
    simp only [Chain] at h1
    rw [HEN.out, h1]
    exact Int.toNat_of_nonneg HBE.out
   rw [hp] at hG
   subst hcells hkK
   obtain ⟨L, hL⟩ : ∃ L, L = (kidsOf ts i).map r := ⟨_, rfl⟩
   rw [← hL] at hG hS HRR
   have hLg : ∀ y ∈ L, IsGas y := by
    rw [hL]
    intro y hy
    obtain ⟨j2, hj2, rfl⟩ := List.mem_map.1 hy
    exact (HR.out j2 hj2).2
   have hSg : IsGas S := by rw [hS]; exact foldl_gas _ _ zero_gas hLg
   have hLK := hG.len
   obtain ⟨C0, C2, CX, CS, CW⟩ := hG.cells_
   have HLG := Lh hLg
   have HSG := Lh hSg
   have HSS := Lh hS
   have HLL := Lh hL
   have HLK := Lh hLK
   have G0 := Lh hG
   clear hLg hSg hS hL hLK hG hp HC HT HS
   have hres : R = gadd (gadd (gadd (S) 1) 1) 1 := by
    rw [HRR.out]
    have hop := HOP.out
    unfold gasF
    simp [hop, HSS.out]
   have HRES := Lh hres
   clear hres
   have hadd4 := add_any (w.heap.size + 1 + 1 + 1) wr.heap.size 0 1 1 (S) [1] _ rfl (by omega) ((G0.out).alloc (.cells #[.int .i64 (1)] 86)).bs (by have := gvals_blk (l := [1]) (Blk.new (wr) 86 #[.int .i64 (1)]); first | exact this | simpa using this) (by have h1 := (G0.out).bs.lt; (try simp at h1); omega) (by simp; try omega) HSG.out (by intro y hy; simp at hy; subst hy; unfold IsGas maxB; omega)
   have HADD4 := Lh hadd4
   clear hadd4
   go_wp2_with fail
   refine HADD4.out.mono ?_
   rintro e w4 ⟨rfl, hb4, hg4⟩
   have G4 := Lh (((G0.out).alloc (.cells #[.int .i64 (1)] 86)).sum hb4 hg4)
   clear hb4 hg4 C0 C2 CX CS CW
   obtain ⟨C0, C2, CX, CS, CW⟩ := G4.out.cells_
   have hadd5 := add_any (w.heap.size + 1 + 1 + 1) w4.heap.size 0 1 1 (gadd (S) 1) [1] _ rfl (by omega) ((G4.out).alloc (.cells #[.int .i64 (1)] 86)).bs (by have := gvals_blk (l := [1]) (Blk.new (w4) 86 #[.int .i64 (1)]); first | exact this | simpa using this) (by have h1 := (G4.out).bs.lt; (try simp at h1); omega) (by simp; try omega) (gadd_gas HSG.out (by omega)) (by intro y hy; simp at hy; subst hy; unfold IsGas maxB; omega)
   have HADD5 := Lh hadd5
   clear hadd5
   go_wp2_with fail
   refine HADD5.out.mono ?_
   rintro e w5 ⟨rfl, hb5, hg5⟩
   have G5 := Lh (((G4.out).alloc (.cells #[.int .i64 (1)] 86)).sum hb5 hg5)
   clear hb5 hg5 C0 C2 CX CS CW
   obtain ⟨C0, C2, CX, CS, CW⟩ := G5.out.cells_
   have hadd6 := add_any (w.heap.size + 1 + 1 + 1) w5.heap.size 0 1 1 (gadd (gadd (S) 1) 1) [1] _ rfl (by omega) ((G5.out).alloc (.cells #[.int .i64 (1)] 86)).bs (by have := gvals_blk (l := [1]) (Blk.new (w5) 86 #[.int .i64 (1)]); first | exact this | simpa using this) (by have h1 := (G5.out).bs.lt; (try simp at h1); omega) (by simp; try omega) (gadd_gas (gadd_gas HSG.out (by omega)) (by omega)) (by intro y hy; simp at hy; subst hy; unfold IsGas maxB; omega)
   have HADD6 := Lh hadd6
   clear hadd6
   go_wp2_with fail
   refine HADD6.out.mono ?_
   rintro e w6 ⟨rfl, hb6, hg6⟩
   have G6 := Lh (((G5.out).alloc (.cells #[.int .i64 (1)] 86)).sum hb6 hg6)
   clear hb6 hg6 C0 C2 CX CS CW
   obtain ⟨C0, C2, CX, CS, CW⟩ := G6.out.cells_
   go_wp2_with fail
   go_ret
   exact ⟨by rw [HRES.out]; rfl, G6.out.bw, G6.out.gr⟩
end Go.Proofs.Ytggibiodeecljaa
namespace Go.Proofs.Ytggibiodeecljaa
open Go.RowKit
set_option linter.unusedVariables false
set_option maxRecDepth 100000 in
set_option maxHeartbeats 2000000 in
theorem node_w39 (wb tb toff cap : Nat) (ts : List Node) (c : Int) (hne : tb ≠ wb) (hl : ts.length ≤ 100000) (hc0 : 1 ≤ c) (hc1 : c ≤ 256) (i : Nat) (x : Node) (hi : i < ts.length) (hx : ts[i]? = some x) (hbe : 0 ≤ behind ts i) (r : Nat → Int) (w : World)
  (hw : Blk w wb 85 #[.slice (some ⟨tb, toff, none⟩) ts.length cap, .int .i64 i, .int .i64 c]) (hn : NodesAt w tb toff ts) (htb : tb < w.heap.size)
  (hr : ∀ j ∈ kidsOf ts i, NodeAtW wb tb toff cap ts c (r j) j ∧ IsGas (r j)) (hop : x.op = 39)  :
  Calls Try.prog 47 #[.pointer (some ⟨wb, 0, none⟩)] w fun e w' => e = .returned (.int .i64 (gasF x ((kidsOf ts i).map r) c)) ∧
   Blk w' wb 85 #[.slice (some ⟨tb, toff, none⟩) ts.length cap, .int .i64 (behind ts i), .int .i64 c] ∧ w.grownBy w' (some wb) := by
 obtain ⟨n0, n1, n2, n3, n4, n5, n6⟩ := hn.all hx
 have W0 := hw.cell 0
 have W1 := hw.cell 1
 have W2 := hw.cell 2
 have W3 := hw.frozen 1
 have hwb := hw.lt
 obtain ⟨K, hK, hKl⟩ := kids_count hx hbe
 rw [hK] at n6
 have hKb : K ≤ 100000 := by rw [← hKl]; exact kidsOf_le hbe hl
 have hmk := fun wx => run_make_row' (P := Try.prog) 145 86 (.int .i64 0) 8 Try.underlying145 infoGas rfl .i64 .i64 K (by omega) (by omega) wx
 simp only [made_gvals] at hmk
 have ecells : (.cells #[.int .i8 x.op, .int .i8 x.kind, .int .i64 x.n, .int .i64 x.m, .string x.text, .int .i64 x.pos, .int .i64 (K : Int)] 42 : Obj) = .cells x.cells.toArray 42 := by simp [Node.cells, hK]
 have hst := gc_start (K := K) (x := x) hw hn htb hne ecells rfl
 have HST := Lh hst
 have HN := Lh hn
 have HR := Lh hr
 have HX := Lh hx
 have HKL := Lh hKl
 have HCH := Lh (kidsOf_chain hbe)
 obtain ⟨R, hRR⟩ : ∃ R, R = gasF x ((kidsOf ts i).map r) c := ⟨_, rfl⟩
 rw [← hRR]
 have HRR := Lh hRR
 obtain ⟨EN, hEN⟩ : ∃ EN, EN = behind ts i := ⟨_, rfl⟩
 rw [← hEN]
 have HEN := Lh hEN
 have HBE := Lh hbe
 have hneq : tb ≠ w.heap.size := by omega
 have hneq2 : wb ≠ w.heap.size := by omega
 generalize hZ : (gvals (List.replicate K 0)).toArray = Z at hmk
 have HZ := Lh hZ
 clear hw hn hr hx hKl hst ecells hRR hEN hbe hK hZ
 have q51 : (x.op == 51) = false := beq_false_of (by omega)
 have q52 : (x.op == 52) = false := beq_false_of (by omega)
 have q10 : (x.op == 10) = false := beq_false_of (by omega)
 have q13 : (x.op == 13) = false := beq_false_of (by omega)
 have q16 : (x.op == 16) = false := beq_false_of (by omega)
 have q14 : (x.op == 14) = false := beq_false_of (by omega)
 have q15 : (x.op == 15) = false := beq_false_of (by omega)
 have q49 : (x.op == 49) = false := beq_false_of (by omega)
 have q50 : (x.op == 50) = false := beq_false_of (by omega)
 have q19 : (x.op == 19) = false := beq_false_of (by omega)
 have q36 : (x.op == 36) = false := beq_false_of (by omega)
 have q37 : (x.op == 37) = false := beq_false_of (by omega)
 have q39 : (x.op == 39) = true := beq_true_of hop
 have HOP := Lh hop
 clear hop
 go_enter Try.func47, Try.ntmps47
 go_wp2_with fail
 go_region_held3 (fun w' => w'.cell? ⟨wb, 0, none⟩ = some (.slice (some ⟨tb, toff, none⟩) ts.length cap) ∧ w'.cell? ⟨wb, 1, none⟩ = some (.int .i64 i) ∧ w'.cell? ⟨tb, toff + i * 7, none⟩ = some (.int .i8 x.op) ∧ w'.cell? ⟨tb, toff + i * 7 + 1, none⟩ = some (.int .i8 x.kind) ∧ w'.cell? ⟨tb, toff + i * 7 + 2, none⟩ = some (.int .i64 x.n) ∧ w'.cell? ⟨tb, toff + i * 7 + 3, none⟩ = some (.int .i64 x.m) ∧ w'.cell? ⟨tb, toff + i * 7 + 4, none⟩ = some (.string x.text) ∧ w'.cell? ⟨tb, toff + i * 7 + 5, none⟩ = some (.int .i64 x.pos) ∧ w'.cell? ⟨tb, toff + i * 7 + 6, none⟩ = some (.int .i64 K)) (first | exact ⟨W0, W1, n0, n1, n2, n3, n4, n5, n6⟩ | go_keep) (skip)
 go_wp2_with fail
 go_loopw [6, 34] (fun _ iv wr => ∃ (k p : Nat) (cells : List Int) (S : Int), k ≤ K ∧ iv = .int .i64 k ∧ Hid (Chain ts p (behind ts i).toNat ((kidsOf ts i).drop k)) ∧ Hid (cells.take k = ((kidsOf ts i).map r).take k) ∧ Hid (S = (((kidsOf ts i).map r).take k).foldl gadd 0) ∧
   GC w wb tb toff cap ts c p x w.heap.size (w.heap.size + 1) (w.heap.size + 1 + 1) (w.heap.size + 1 + 1 + 1) K cells S wr)
  (fun _ iv _ => K - (intOf iv).toNat)
 case atStart =>
  refine ⟨0, i + 1, List.replicate K 0, 0, by omega, rfl, HCH.out, by simp [Hid], by simp [Hid], ?_⟩
  have h := HST.out
  rw [HZ.out] at h
  exact h
 case round =>
  obtain ⟨k, p, cells, S, hk, rfl, HC, HT, HS, hG⟩ := hrel
  by_cases hlt : k < K
  ·obtain ⟨j, hj⟩ : ∃ j, (kidsOf ts i)[k]? = some j := ⟨_, List.getElem?_eq_getElem (by rw [HKL.out]; exact hlt)⟩
   have hdrop : (kidsOf ts i).drop k = j :: (kidsOf ts i).drop (k + 1) := by
    obtain ⟨h2, h3⟩ := List.getElem?_eq_some_iff.1 hj
    rw [List.drop_eq_getElem_cons h2, h3]
   have hC1 := HC.out
   rw [hdrop] at hC1
   obtain ⟨rfl, g1, g2, g3⟩ := hC1
   obtain ⟨hnode, hgas⟩ := HR.out j (List.mem_of_getElem? hj)
   have hbj : (behind ts j) = ((behind ts j).toNat : Int) := (Int.toNat_of_nonneg g1).symm
   obtain ⟨q, hq⟩ : ∃ q, (behind ts j).toNat = q := ⟨_, rfl⟩
   rw [hq] at hbj g3
   have hSg : IsGas S := by
    rw [HS.out]
    refine foldl_gas _ _ zero_gas fun y hy => ?_
    obtain ⟨j2, hj2, rfl⟩ := List.mem_map.1 (List.mem_of_mem_take hy)
    exact (HR.out j2 hj2).2
   have htk : ((kidsOf ts i).map r).take (k + 1) = ((kidsOf ts i).map r).take k ++ [r j] := by
    rw [List.take_add_one, List.getElem?_map, hj]; rfl
   have hcl := hG.len
   obtain ⟨C0, C2, CX, CS, CW⟩ := hG.cells_
   have hkI : (k : Int) < K := by omega
   have hGw := hG.drew.bw
   have HND := Lh hnode
   have HGA := Lh hgas
   have HSG := Lh hSg
   have HTK := Lh htk
   have HG3 := Lh g3
   have HBJ := Lh hbj
   have HG := Lh hG
   clear hnode hgas hSg htk g3 hbj hdrop hG hGw C0 C2 CS CW
   obtain ⟨V, hV⟩ : ∃ V, V = r j := ⟨_, rfl⟩
   have HV := Lh hV
   rw [← hV] at HND HGA HTK
   clear hV hj hq
   go_wp2_with fail
   go_region_held3 (fun w' => w'.cell? ⟨w.heap.size + 1 + 1, 0, none⟩ = some (.slice (some ⟨w.heap.size + 1, 0, none⟩) K K)) (first | exact CX | exact CX2 | go_keep) ((first | (go_at_call 47; refine (HND.out _ HG.out.drew.bw HG.out.drew.nodes (Nat.lt_of_lt_of_le HG.out.htb HG.out.drew.gr.size)).mono ?_; rintro e w2 ⟨rfl, hb2, hg2⟩; rw [HBJ.out] at hb2; have G2 := Lh (HG.out.drew.went q hb2 hg2); have CX2 := G2.out.cells_.2.2.1; have CK := G2.out.at_ k hlt; have CZ := G2.out.bl.frozen k; clear hb2 hg2)))
   have G3 := Lh (G2.out.setCost k V)
   have hadd := add_any (w.heap.size + 1 + 1 + 1) w2.heap.size 0 1 1 S [V] _ rfl (by omega) (G3.out.alloc (.cells #[.int .i64 V] 86)).bs (by have := gone (w2.setCell ⟨w.heap.size + 1, k, none⟩ (.int .i64 V)) V; simpa using this) (by have h1 := G2.out.bs.lt; omega) (by simp) HSG.out (by intro y hy; simp at hy; subst hy; exact HGA.out)
   have HADD := Lh hadd
   clear hadd
   go_wp2_with fail
   refine HADD.out.mono ?_
   rintro e w3 ⟨rfl, hb3, hg3⟩
   have G4 := Lh ((G3.out.alloc _).sum hb3 hg3)
   clear hb3 hg3
   go_wp2_with fail
   go_roundw
   case rel =>
    refine ⟨k + 1, q, cells.set k V, gadd S V, by omega, by go_num, HG3.out, ?_, ?_, G4.out⟩
    ·show _ = _
     rw [HTK.out, take_set_succ _ _ _ (by omega)]
     exact congrArg (· ++ [V]) HT.out
    ·show _ = _
     rw [HTK.out, List.foldl_append, ← HS.out]
     rfl
   case measure => (simp [intOf]; try omega)
  ·have hkK : k = K := by omega
   have hcells : cells = (kidsOf ts i).map r := by
    have h1 := HT.out
    rw [List.take_of_length_le (by have := hG.len; omega), List.take_of_length_le (by rw [List.length_map, HKL.out]; omega)] at h1
    exact h1
   have hS : S = ((kidsOf ts i).map r).foldl gadd 0 := by
    rw [HS.out, List.take_of_length_le (by rw [List.length_map, HKL.out]; omega)]
   have hp : (p : Int) = EN := by
    have h1 := HC.out
    rw [List.drop_of_length_le (by rw [HKL.out]; omega)] at h1
    simp only [Chain] at h1
    rw [HEN.out, h1]
    exact Int.toNat_of_nonneg HBE.out
   rw [hp] at hG
   subst hcells hkK
   obtain ⟨L, hL⟩ : ∃ L, L = (kidsOf ts i).map r := ⟨_, rfl⟩
   rw [← hL] at hG hS HRR
   have hLg : ∀ y ∈ L, IsGas y := by
    rw [hL]
    intro y hy
    obtain ⟨j2, hj2, rfl⟩ := List.mem_map.1 hy
    exact (HR.out j2 hj2).2
   have hSg : IsGas S := by rw [hS]; exact foldl_gas _ _ zero_gas hLg
   have hLK := hG.len
   obtain ⟨C0, C2, CX, CS, CW⟩ := hG.cells_
   have HLG := Lh hLg
   have HSG := Lh hSg
   have HSS := Lh hS
   have HLL := Lh hL
   have HLK := Lh hLK
   have G0 := Lh hG
   clear hLg hSg hS hL hLK hG hp HC HT HS
   have hres : R = gadd (gadd (S) 1) 1 := by
    rw [HRR.out]
    have hop := HOP.out
    unfold gasF
    simp [hop, HSS.out]
   have HRES := Lh hres
   clear hres
   have hadd4 := add_any (w.heap.size + 1 + 1 + 1) wr.heap.size 0 1 1 (S) [1] _ rfl (by omega) ((G0.out).alloc (.cells #[.int .i64 (1)] 86)).bs (by have := gvals_blk (l := [1]) (Blk.new (wr) 86 #[.int .i64 (1)]); first | exact this | simpa using this) (by have h1 := (G0.out).bs.lt; (try simp at h1); omega) (by simp; try omega) HSG.out (by intro y hy; simp at hy; subst hy; unfold IsGas maxB; omega)
   have HADD4 := Lh hadd4
   clear hadd4
   go_wp2_with fail
   refine HADD4.out.mono ?_
   rintro e w4 ⟨rfl, hb4, hg4⟩
   have G4 := Lh (((G0.out).alloc (.cells #[.int .i64 (1)] 86)).sum hb4 hg4)
   clear hb4 hg4 C0 C2 CX CS CW
   obtain ⟨C0, C2, CX, CS, CW⟩ := G4.out.cells_
   have hadd5 := add_any (w.heap.size + 1 + 1 + 1) w4.heap.size 0 1 1 (gadd (S) 1) [1] _ rfl (by omega) ((G4.out).alloc (.cells #[.int .i64 (1)] 86)).bs (by have := gvals_blk (l := [1]) (Blk.new (w4) 86 #[.int .i64 (1)]); first | exact this | simpa using this) (by have h1 := (G4.out).bs.lt; (try simp at h1); omega) (by simp; try omega) (gadd_gas HSG.out (by omega)) (by intro y hy; simp at hy; subst hy; unfold IsGas maxB; omega)
   have HADD5 := Lh hadd5
   clear hadd5
   go_wp2_with fail
   refine HADD5.out.mono ?_
   rintro e w5 ⟨rfl, hb5, hg5⟩
   have G5 := Lh (((G4.out).alloc (.cells #[.int .i64 (1)] 86)).sum hb5 hg5)
   clear hb5 hg5 C0 C2 CX CS CW
   obtain ⟨C0, C2, CX, CS, CW⟩ := G5.out.cells_
   go_wp2_with fail
   go_ret
   exact ⟨by rw [HRES.out]; rfl, G5.out.bw, G5.out.gr⟩
end Go.Proofs.Ytggibiodeecljaa
namespace Go.Proofs.Ytggibiodeecljaa
open Go.RowKit
set_option linter.unusedVariables false
set_option maxRecDepth 100000 in
set_option maxHeartbeats 2000000 in
theorem node_wrest (wb tb toff cap : Nat) (ts : List Node) (c : Int) (hne : tb ≠ wb) (hl : ts.length ≤ 100000) (hc0 : 1 ≤ c) (hc1 : c ≤ 256) (i : Nat) (x : Node) (hi : i < ts.length) (hx : ts[i]? = some x) (hbe : 0 ≤ behind ts i) (r : Nat → Int) (w : World)
  (hw : Blk w wb 85 #[.slice (some ⟨tb, toff, none⟩) ts.length cap, .int .i64 i, .int .i64 c]) (hn : NodesAt w tb toff ts) (htb : tb < w.heap.size)
  (hr : ∀ j ∈ kidsOf ts i, NodeAtW wb tb toff cap ts c (r j) j ∧ IsGas (r j)) (hop : x.op ≠ 51 ∧ x.op ≠ 52 ∧ x.op ≠ 10 ∧ x.op ≠ 13 ∧ x.op ≠ 16 ∧ x.op ≠ 14 ∧ x.op ≠ 15 ∧ x.op ≠ 49 ∧ x.op ≠ 50 ∧ x.op ≠ 19 ∧ x.op ≠ 36 ∧ x.op ≠ 37 ∧ x.op ≠ 39)  :
  Calls Try.prog 47 #[.pointer (some ⟨wb, 0, none⟩)] w fun e w' => e = .returned (.int .i64 (gasF x ((kidsOf ts i).map r) c)) ∧
   Blk w' wb 85 #[.slice (some ⟨tb, toff, none⟩) ts.length cap, .int .i64 (behind ts i), .int .i64 c] ∧ w.grownBy w' (some wb) := by
 obtain ⟨n0, n1, n2, n3, n4, n5, n6⟩ := hn.all hx
 have W0 := hw.cell 0
 have W1 := hw.cell 1
 have W2 := hw.cell 2
 have W3 := hw.frozen 1
 have hwb := hw.lt
 obtain ⟨K, hK, hKl⟩ := kids_count hx hbe
 rw [hK] at n6
 have hKb : K ≤ 100000 := by rw [← hKl]; exact kidsOf_le hbe hl
 have hmk := fun wx => run_make_row' (P := Try.prog) 145 86 (.int .i64 0) 8 Try.underlying145 infoGas rfl .i64 .i64 K (by omega) (by omega) wx
 simp only [made_gvals] at hmk
 have ecells : (.cells #[.int .i8 x.op, .int .i8 x.kind, .int .i64 x.n, .int .i64 x.m, .string x.text, .int .i64 x.pos, .int .i64 (K : Int)] 42 : Obj) = .cells x.cells.toArray 42 := by simp [Node.cells, hK]
 have hst := gc_start (K := K) (x := x) hw hn htb hne ecells rfl
 have HST := Lh hst
 have HN := Lh hn
 have HR := Lh hr
 have HX := Lh hx
 have HKL := Lh hKl
 have HCH := Lh (kidsOf_chain hbe)
 obtain ⟨R, hRR⟩ : ∃ R, R = gasF x ((kidsOf ts i).map r) c := ⟨_, rfl⟩
 rw [← hRR]
 have HRR := Lh hRR
 obtain ⟨EN, hEN⟩ : ∃ EN, EN = behind ts i := ⟨_, rfl⟩
 rw [← hEN]
 have HEN := Lh hEN
 have HBE := Lh hbe
 have hneq : tb ≠ w.heap.size := by omega
 have hneq2 : wb ≠ w.heap.size := by omega
 generalize hZ : (gvals (List.replicate K 0)).toArray = Z at hmk
 have HZ := Lh hZ
 clear hw hn hr hx hKl hst ecells hRR hEN hbe hK hZ
 have q51 : (x.op == 51) = false := beq_false_of (by omega)
 have q52 : (x.op == 52) = false := beq_false_of (by omega)
 have q10 : (x.op == 10) = false := beq_false_of (by omega)
 have q13 : (x.op == 13) = false := beq_false_of (by omega)
 have q16 : (x.op == 16) = false := beq_false_of (by omega)
 have q14 : (x.op == 14) = false := beq_false_of (by omega)
 have q15 : (x.op == 15) = false := beq_false_of (by omega)
 have q49 : (x.op == 49) = false := beq_false_of (by omega)
 have q50 : (x.op == 50) = false := beq_false_of (by omega)
 have q19 : (x.op == 19) = false := beq_false_of (by omega)
 have q36 : (x.op == 36) = false := beq_false_of (by omega)
 have q37 : (x.op == 37) = false := beq_false_of (by omega)
 have q39 : (x.op == 39) = false := beq_false_of (by omega)
 have HOP := Lh hop
 clear hop
 go_enter Try.func47, Try.ntmps47
 go_wp2_with fail
 go_region_held3 (fun w' => w'.cell? ⟨wb, 0, none⟩ = some (.slice (some ⟨tb, toff, none⟩) ts.length cap) ∧ w'.cell? ⟨wb, 1, none⟩ = some (.int .i64 i) ∧ w'.cell? ⟨tb, toff + i * 7, none⟩ = some (.int .i8 x.op) ∧ w'.cell? ⟨tb, toff + i * 7 + 1, none⟩ = some (.int .i8 x.kind) ∧ w'.cell? ⟨tb, toff + i * 7 + 2, none⟩ = some (.int .i64 x.n) ∧ w'.cell? ⟨tb, toff + i * 7 + 3, none⟩ = some (.int .i64 x.m) ∧ w'.cell? ⟨tb, toff + i * 7 + 4, none⟩ = some (.string x.text) ∧ w'.cell? ⟨tb, toff + i * 7 + 5, none⟩ = some (.int .i64 x.pos) ∧ w'.cell? ⟨tb, toff + i * 7 + 6, none⟩ = some (.int .i64 K)) (first | exact ⟨W0, W1, n0, n1, n2, n3, n4, n5, n6⟩ | go_keep) (skip)
 go_wp2_with fail
 go_loopw [6, 34] (fun _ iv wr => ∃ (k p : Nat) (cells : List Int) (S : Int), k ≤ K ∧ iv = .int .i64 k ∧ Hid (Chain ts p (behind ts i).toNat ((kidsOf ts i).drop k)) ∧ Hid (cells.take k = ((kidsOf ts i).map r).take k) ∧ Hid (S = (((kidsOf ts i).map r).take k).foldl gadd 0) ∧
   GC w wb tb toff cap ts c p x w.heap.size (w.heap.size + 1) (w.heap.size + 1 + 1) (w.heap.size + 1 + 1 + 1) K cells S wr)
  (fun _ iv _ => K - (intOf iv).toNat)
 case atStart =>
  refine ⟨0, i + 1, List.replicate K 0, 0, by omega, rfl, HCH.out, by simp [Hid], by simp [Hid], ?_⟩
  have h := HST.out
  rw [HZ.out] at h
  exact h
 case round =>
  obtain ⟨k, p, cells, S, hk, rfl, HC, HT, HS, hG⟩ := hrel
  by_cases hlt : k < K
  ·obtain ⟨j, hj⟩ : ∃ j, (kidsOf ts i)[k]? = some j := ⟨_, List.getElem?_eq_getElem (by rw [HKL.out]; exact hlt)⟩
   have hdrop : (kidsOf ts i).drop k = j :: (kidsOf ts i).drop (k + 1) := by
    obtain ⟨h2, h3⟩ := List.getElem?_eq_some_iff.1 hj
    rw [List.drop_eq_getElem_cons h2, h3]
   have hC1 := HC.out
   rw [hdrop] at hC1
   obtain ⟨rfl, g1, g2, g3⟩ := hC1
   obtain ⟨hnode, hgas⟩ := HR.out j (List.mem_of_getElem? hj)
   have hbj : (behind ts j) = ((behind ts j).toNat : Int) := (Int.toNat_of_nonneg g1).symm
   obtain ⟨q, hq⟩ : ∃ q, (behind ts j).toNat = q := ⟨_, rfl⟩
   rw [hq] at hbj g3
   have hSg : IsGas S := by
    rw [HS.out]
    refine foldl_gas _ _ zero_gas fun y hy => ?_
    obtain ⟨j2, hj2, rfl⟩ := List.mem_map.1 (List.mem_of_mem_take hy)
    exact (HR.out j2 hj2).2
   have htk : ((kidsOf ts i).map r).take (k + 1) = ((kidsOf ts i).map r).take k ++ [r j] := by
    rw [List.take_add_one, List.getElem?_map, hj]; rfl
   have hcl := hG.len
   obtain ⟨C0, C2, CX, CS, CW⟩ := hG.cells_
   have hkI : (k : Int) < K := by omega
   have hGw := hG.drew.bw
   have HND := Lh hnode
   have HGA := Lh hgas
   have HSG := Lh hSg
   have HTK := Lh htk
   have HG3 := Lh g3
   have HBJ := Lh hbj
   have HG := Lh hG
   clear hnode hgas hSg htk g3 hbj hdrop hG hGw C0 C2 CS CW
   obtain ⟨V, hV⟩ : ∃ V, V = r j := ⟨_, rfl⟩
   have HV := Lh hV
   rw [← hV] at HND HGA HTK
   clear hV hj hq
   go_wp2_with fail
   go_region_held3 (fun w' => w'.cell? ⟨w.heap.size + 1 + 1, 0, none⟩ = some (.slice (some ⟨w.heap.size + 1, 0, none⟩) K K)) (first | exact CX | exact CX2 | go_keep) ((first | (go_at_call 47; refine (HND.out _ HG.out.drew.bw HG.out.drew.nodes (Nat.lt_of_lt_of_le HG.out.htb HG.out.drew.gr.size)).mono ?_; rintro e w2 ⟨rfl, hb2, hg2⟩; rw [HBJ.out] at hb2; have G2 := Lh (HG.out.drew.went q hb2 hg2); have CX2 := G2.out.cells_.2.2.1; have CK := G2.out.at_ k hlt; have CZ := G2.out.bl.frozen k; clear hb2 hg2)))
   have G3 := Lh (G2.out.setCost k V)
   have hadd := add_any (w.heap.size + 1 + 1 + 1) w2.heap.size 0 1 1 S [V] _ rfl (by omega) (G3.out.alloc (.cells #[.int .i64 V] 86)).bs (by have := gone (w2.setCell ⟨w.heap.size + 1, k, none⟩ (.int .i64 V)) V; simpa using this) (by have h1 := G2.out.bs.lt; omega) (by simp) HSG.out (by intro y hy; simp at hy; subst hy; exact HGA.out)
   have HADD := Lh hadd
   clear hadd
   go_wp2_with fail
   refine HADD.out.mono ?_
   rintro e w3 ⟨rfl, hb3, hg3⟩
   have G4 := Lh ((G3.out.alloc _).sum hb3 hg3)
   clear hb3 hg3
   go_wp2_with fail
   go_roundw
   case rel =>
    refine ⟨k + 1, q, cells.set k V, gadd S V, by omega, by go_num, HG3.out, ?_, ?_, G4.out⟩
    ·show _ = _
     rw [HTK.out, take_set_succ _ _ _ (by omega)]
     exact congrArg (· ++ [V]) HT.out
    ·show _ = _
     rw [HTK.out, List.foldl_append, ← HS.out]
     rfl
   case measure => (simp [intOf]; try omega)
  ·have hkK : k = K := by omega
   have hcells : cells = (kidsOf ts i).map r := by
    have h1 := HT.out
    rw [List.take_of_length_le (by have := hG.len; omega), List.take_of_length_le (by rw [List.length_map, HKL.out]; omega)] at h1
    exact h1
   have hS : S = ((kidsOf ts i).map r).foldl gadd 0 := by
    rw [HS.out, List.take_of_length_le (by rw [List.length_map, HKL.out]; omega)]
   have hp : (p : Int) = EN := by
    have h1 := HC.out
    rw [List.drop_of_length_le (by rw [HKL.out]; omega)] at h1
    simp only [Chain] at h1
    rw [HEN.out, h1]
    exact Int.toNat_of_nonneg HBE.out
   rw [hp] at hG
   subst hcells hkK
   obtain ⟨L, hL⟩ : ∃ L, L = (kidsOf ts i).map r := ⟨_, rfl⟩
   rw [← hL] at hG hS HRR
   have hLg : ∀ y ∈ L, IsGas y := by
    rw [hL]
    intro y hy
    obtain ⟨j2, hj2, rfl⟩ := List.mem_map.1 hy
    exact (HR.out j2 hj2).2
   have hSg : IsGas S := by rw [hS]; exact foldl_gas _ _ zero_gas hLg
   have hLK := hG.len
   obtain ⟨C0, C2, CX, CS, CW⟩ := hG.cells_
   have HLG := Lh hLg
   have HSG := Lh hSg
   have HSS := Lh hS
   have HLL := Lh hL
   have HLK := Lh hLK
   have G0 := Lh hG
   clear hLg hSg hS hL hLK hG hp HC HT HS
   have hres : R = gadd (S) 1 := by
    rw [HRR.out]
    have hop := HOP.out
    unfold gasF
    simp [hop, HSS.out]
   have HRES := Lh hres
   clear hres
   have hadd4 := add_any (w.heap.size + 1 + 1 + 1) wr.heap.size 0 1 1 (S) [1] _ rfl (by omega) ((G0.out).alloc (.cells #[.int .i64 (1)] 86)).bs (by have := gvals_blk (l := [1]) (Blk.new (wr) 86 #[.int .i64 (1)]); first | exact this | simpa using this) (by have h1 := (G0.out).bs.lt; (try simp at h1); omega) (by simp; try omega) HSG.out (by intro y hy; simp at hy; subst hy; unfold IsGas maxB; omega)
   have HADD4 := Lh hadd4
   clear hadd4
   go_wp2_with fail
   refine HADD4.out.mono ?_
   rintro e w4 ⟨rfl, hb4, hg4⟩
   have G4 := Lh (((G0.out).alloc (.cells #[.int .i64 (1)] 86)).sum hb4 hg4)
   clear hb4 hg4 C0 C2 CX CS CW
   obtain ⟨C0, C2, CX, CS, CW⟩ := G4.out.cells_
   go_wp2_with fail
   go_ret
   exact ⟨by rw [HRES.out]; rfl, G4.out.bw, G4.out.gr⟩
end Go.Proofs.Ytggibiodeecljaa
