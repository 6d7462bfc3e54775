/- walk.node, a repeat. Written by gen_walk.py. walk.node, field. Written by gen_walk.py. walk.node, call. Written by gen_walk.py. walk.node, do. Written by gen_walk.py. -/
import Derived.Test.YtggibiodeecljaaMWalk
import Derived.Test.YtggibiodeecljaaExpr4
namespace Go.Proofs.Ytggibiodeecljaa
open Go.RowKit
set_option linter.unusedVariables false
set_option maxRecDepth 100000 in
set_option maxHeartbeats 2000000 in
theorem node_repeat (wb tb toff cap : Nat) (ts : List Node) (c : Int) (hne : tb ≠ wb) (hl : ts.length ≤ 100000) (hc0 : 1 ≤ c) (hc1 : c ≤ 256) (i : Nat) (x : Node) (hi : i < ts.length) (hx : ts[i]? = some x) (hbe : 0 ≤ behind ts i) (r : Nat → Int) (w : World)
  (hw : Blk w wb 85 #[.slice (some ⟨tb, toff, none⟩) ts.length cap, .int .i64 i, .int .i64 c]) (hn : NodesAt w tb toff ts) (htb : tb < w.heap.size)
  (hr : ∀ j ∈ kidsOf ts i, NodeAtW wb tb toff cap ts c (r j) j ∧ IsGas (r j)) (hop : x.op = 14) (hk2 : 1 ≤ (kidsOf ts i).length) (hxn0 : 0 ≤ x.n) (hxn1 : x.n ≤ 255) :
  Calls Try.prog 47 #[.pointer (some ⟨wb, 0, none⟩)] w fun e w' => e = .returned (.int .i64 (gasF x ((kidsOf ts i).map r) c)) ∧
   Blk w' wb 85 #[.slice (some ⟨tb, toff, none⟩) ts.length cap, .int .i64 (behind ts i), .int .i64 c] ∧ w.grownBy w' (some wb) := by
 obtain ⟨n0, n1, n2, n3, n4, n5, n6⟩ := hn.all hx
 have W0 := hw.cell 0
 have W1 := hw.cell 1
 have W2 := hw.cell 2
 have W3 := hw.frozen 1
 have hwb := hw.lt
 obtain ⟨K, hK, hKl⟩ := kids_count hx hbe
 rw [hK] at n6
 have hKb : K ≤ 100000 := by rw [← hKl]; exact kidsOf_le hbe hl
 have hmk := fun wx => run_make_row' (P := Try.prog) 145 86 (.int .i64 0) 8 Try.underlying145 infoGas rfl .i64 .i64 K (by omega) (by omega) wx
 simp only [made_gvals] at hmk
 have ecells : (.cells #[.int .i8 x.op, .int .i8 x.kind, .int .i64 x.n, .int .i64 x.m, .string x.text, .int .i64 x.pos, .int .i64 (K : Int)] 42 : Obj) = .cells x.cells.toArray 42 := by simp [Node.cells, hK]
 have hst := gc_start (K := K) (x := x) hw hn htb hne ecells rfl
 have HST := Lh hst
 have HN := Lh hn
 have HR := Lh hr
 have HX := Lh hx
 have HKL := Lh hKl
 rw [hKl] at hk2
 have HCH := Lh (kidsOf_chain hbe)
 obtain ⟨R, hRR⟩ : ∃ R, R = gasF x ((kidsOf ts i).map r) c := ⟨_, rfl⟩
 rw [← hRR]
 have HRR := Lh hRR
 obtain ⟨EN, hEN⟩ : ∃ EN, EN = behind ts i := ⟨_, rfl⟩
 rw [← hEN]
 have HEN := Lh hEN
 have HBE := Lh hbe
 have hneq : tb ≠ w.heap.size := by omega
 have hneq2 : wb ≠ w.heap.size := by omega
 generalize hZ : (gvals (List.replicate K 0)).toArray = Z at hmk
 have HZ := Lh hZ
 clear hw hn hr hx hKl hst ecells hRR hEN hbe hK hZ
 have q51 : (x.op == 51) = false := beq_false_of (by omega)
 have q52 : (x.op == 52) = false := beq_false_of (by omega)
 have q10 : (x.op == 10) = false := beq_false_of (by omega)
 have q13 : (x.op == 13) = false := beq_false_of (by omega)
 have q16 : (x.op == 16) = false := beq_false_of (by omega)
 have q14 : (x.op == 14) = true := beq_true_of hop
 have HOP := Lh hop
 clear hop
 go_enter Try.func47, Try.ntmps47
 go_wp2_with fail
 go_region_held3 (fun w' => w'.cell? ⟨wb, 0, none⟩ = some (.slice (some ⟨tb, toff, none⟩) ts.length cap) ∧ w'.cell? ⟨wb, 1, none⟩ = some (.int .i64 i) ∧ w'.cell? ⟨tb, toff + i * 7, none⟩ = some (.int .i8 x.op) ∧ w'.cell? ⟨tb, toff + i * 7 + 1, none⟩ = some (.int .i8 x.kind) ∧ w'.cell? ⟨tb, toff + i * 7 + 2, none⟩ = some (.int .i64 x.n) ∧ w'.cell? ⟨tb, toff + i * 7 + 3, none⟩ = some (.int .i64 x.m) ∧ w'.cell? ⟨tb, toff + i * 7 + 4, none⟩ = some (.string x.text) ∧ w'.cell? ⟨tb, toff + i * 7 + 5, none⟩ = some (.int .i64 x.pos) ∧ w'.cell? ⟨tb, toff + i * 7 + 6, none⟩ = some (.int .i64 K)) (first | exact ⟨W0, W1, n0, n1, n2, n3, n4, n5, n6⟩ | go_keep) (skip)
 go_wp2_with fail
 go_loopw [6, 34] (fun _ iv wr => ∃ (k p : Nat) (cells : List Int) (S : Int), k ≤ K ∧ iv = .int .i64 k ∧ Hid (Chain ts p (behind ts i).toNat ((kidsOf ts i).drop k)) ∧ Hid (cells.take k = ((kidsOf ts i).map r).take k) ∧ Hid (S = (((kidsOf ts i).map r).take k).foldl gadd 0) ∧
   GC w wb tb toff cap ts c p x w.heap.size (w.heap.size + 1) (w.heap.size + 1 + 1) (w.heap.size + 1 + 1 + 1) K cells S wr)
  (fun _ iv _ => K - (intOf iv).toNat)
 case atStart =>
  refine ⟨0, i + 1, List.replicate K 0, 0, by omega, rfl, HCH.out, by simp [Hid], by simp [Hid], ?_⟩
  have h := HST.out
  rw [HZ.out] at h
  exact h
 case round =>
  obtain ⟨k, p, cells, S, hk, rfl, HC, HT, HS, hG⟩ := hrel
  by_cases hlt : k < K
  ·obtain ⟨j, hj⟩ : ∃ j, (kidsOf ts i)[k]? = some j := ⟨_, List.getElem?_eq_getElem (by rw [HKL.out]; exact hlt)⟩
   have hdrop : (kidsOf ts i).drop k = j :: (kidsOf ts i).drop (k + 1) := by
    obtain ⟨h2, h3⟩ := List.getElem?_eq_some_iff.1 hj
    rw [List.drop_eq_getElem_cons h2, h3]
   have hC1 := HC.out
   rw [hdrop] at hC1
   obtain ⟨rfl, g1, g2, g3⟩ := hC1
   obtain ⟨hnode, hgas⟩ := HR.out j (List.mem_of_getElem? hj)
   have hbj : (behind ts j) = ((behind ts j).toNat : Int) := (Int.toNat_of_nonneg g1).symm
   obtain ⟨q, hq⟩ : ∃ q, (behind ts j).toNat = q := ⟨_, rfl⟩
   rw [hq] at hbj g3
   have hSg : IsGas S := by
    rw [HS.out]
    refine foldl_gas _ _ zero_gas fun y hy => ?_
    obtain ⟨j2, hj2, rfl⟩ := List.mem_map.1 (List.mem_of_mem_take hy)
    exact (HR.out j2 hj2).2
   have htk : ((kidsOf ts i).map r).take (k + 1) = ((kidsOf ts i).map r).take k ++ [r j] := by
    rw [List.take_add_one, List.getElem?_map, hj]; rfl
   have hcl := hG.len
   obtain ⟨C0, C2, CX, CS, CW⟩ := hG.cells_
   have hkI : (k : Int) < K := by omega
   have hGw := hG.drew.bw
   have HND := Lh hnode
   have HGA := Lh hgas
   have HSG := Lh hSg
   have HTK := Lh htk
   have HG3 := Lh g3
   have HBJ := Lh hbj
   have HG := Lh hG
   clear hnode hgas hSg htk g3 hbj hdrop hG hGw C0 C2 CS CW
   obtain ⟨V, hV⟩ : ∃ V, V = r j := ⟨_, rfl⟩
   have HV := Lh hV
   rw [← hV] at HND HGA HTK
   clear hV hj hq
   go_wp2_with fail
   go_region_held3 (fun w' => w'.cell? ⟨w.heap.size + 1 + 1, 0, none⟩ = some (.slice (some ⟨w.heap.size + 1, 0, none⟩) K K)) (first | exact CX | exact CX2 | go_keep) ((first | (go_at_call 47; refine (HND.out _ HG.out.drew.bw HG.out.drew.nodes (Nat.lt_of_lt_of_le HG.out.htb HG.out.drew.gr.size)).mono ?_; rintro e w2 ⟨rfl, hb2, hg2⟩; rw [HBJ.out] at hb2; have G2 := Lh (HG.out.drew.went q hb2 hg2); have CX2 := G2.out.cells_.2.2.1; have CK := G2.out.at_ k hlt; have CZ := G2.out.bl.frozen k; clear hb2 hg2)))
   have G3 := Lh (G2.out.setCost k V)
   have hadd := add_any (w.heap.size + 1 + 1 + 1) w2.heap.size 0 1 1 S [V] _ rfl (by omega) (G3.out.alloc (.cells #[.int .i64 V] 86)).bs (by have := gone (w2.setCell ⟨w.heap.size + 1, k, none⟩ (.int .i64 V)) V; simpa using this) (by have h1 := G2.out.bs.lt; omega) (by simp) HSG.out (by intro y hy; simp at hy; subst hy; exact HGA.out)
   have HADD := Lh hadd
   clear hadd
   go_wp2_with fail
   refine HADD.out.mono ?_
   rintro e w3 ⟨rfl, hb3, hg3⟩
   have G4 := Lh ((G3.out.alloc _).sum hb3 hg3)
   clear hb3 hg3
   go_wp2_with fail
   go_roundw
   case rel =>
    refine ⟨k + 1, q, cells.set k V, gadd S V, by omega, by go_num, HG3.out, ?_, ?_, G4.out⟩
    ·show _ = _
     rw [HTK.out, take_set_succ _ _ _ (by omega)]
     exact congrArg (· ++ [V]) HT.out
    ·show _ = _
     rw [HTK.out, List.foldl_append, ← HS.out]
     rfl
   case measure => (simp [intOf]; try omega)
  ·have hkK : k = K := by omega
   have hcells : cells = (kidsOf ts i).map r := by
    have h1 := HT.out
    rw [List.take_of_length_le (by have := hG.len; omega), List.take_of_length_le (by rw [List.length_map, HKL.out]; omega)] at h1
    exact h1
   have hS : S = ((kidsOf ts i).map r).foldl gadd 0 := by
    rw [HS.out, List.take_of_length_le (by rw [List.length_map, HKL.out]; omega)]
   have hp : (p : Int) = EN := by
    have h1 := HC.out
    rw [List.drop_of_length_le (by rw [HKL.out]; omega)] at h1
    simp only [Chain] at h1
    rw [HEN.out, h1]
    exact Int.toNat_of_nonneg HBE.out
   rw [hp] at hG
   subst hcells hkK
   obtain ⟨L, hL⟩ : ∃ L, L = (kidsOf ts i).map r := ⟨_, rfl⟩
   rw [← hL] at hG hS HRR
   have hLg : ∀ y ∈ L, IsGas y := by
    rw [hL]
    intro y hy
    obtain ⟨j2, hj2, rfl⟩ := List.mem_map.1 hy
    exact (HR.out j2 hj2).2
   have hSg : IsGas S := by rw [hS]; exact foldl_gas _ _ zero_gas hLg
   have hLK := hG.len
   obtain ⟨C0, C2, CX, CS, CW⟩ := hG.cells_
   have HLG := Lh hLg
   have HSG := Lh hSg
   have HSS := Lh hS
   have HLL := Lh hL
   have HLK := Lh hLK
   have G0 := Lh hG
   clear hLg hSg hS hL hLK hG hp HC HT HS
   obtain ⟨l0, hl0⟩ : ∃ l, l = L.getD 0 0 := ⟨_, rfl⟩
   have HL0 := Lh hl0
   have D0 := G0.out.at_ 0 (by omega)
   rw [← hl0] at D0
   have hlg0 : IsGas l0 := by rw [hl0]; exact getD_gas HLG.out 0
   have LG0 := Lh hlg0
   have hKI0 : ((0 : Nat) : Int) < k := by omega
   clear hl0 hlg0
   have hres : R = gadd (gadd 2 (gtimes 4 (x.n + 1))) (gtimes (gadd (L.getD 0 0) 5) x.n) := by
    rw [HRR.out]
    have hop := HOP.out
    unfold gasF
    simp [hop]
   have HRES := Lh hres
   clear hres
   have hrb := Blk.new wr 86 #[.int .i64 l0]
   have G4 := Lh ((G0.out).alloc (.cells #[.int .i64 l0] 86))
   have hadd5 := add_any wr.heap.size (wr.heap.size + 1) 0 1 1 (l0) [5] _ rfl (by omega) (hrb.alloc (.cells #[.int .i64 (5)] 86)) (by have := gvals_blk (l := [5]) (Blk.new (wr.alloc (.cells #[.int .i64 l0] 86)) 86 #[.int .i64 (5)]); simpa using this) (by omega) (by simp) LG0.out (by intro y hy; simp at hy; subst hy; unfold IsGas maxB; omega)
   have HADD5 := Lh hadd5
   clear hadd5 hrb
   go_wp2_with fail
   refine HADD5.out.mono ?_
   rintro e w5 ⟨rfl, hrb, hg5⟩
   have hsbl := G0.out.bs.lt
   have G5 := Lh ((G4.out.alloc (.cells #[.int .i64 (5)] 86)).other hg5 (fun g e => by injection e with e; right; omega))
   clear hg5 C0 C2 CX CS CW
   obtain ⟨C0, C2, CX, CS, CW⟩ := G5.out.cells_
   have hfo : ([5] : List Int).foldl gadd l0 = gadd l0 5 := rfl
   rw [hfo] at hrb
   obtain ⟨rv, hrv⟩ : ∃ rv, rv = gadd l0 5 := ⟨_, rfl⟩
   rw [← hrv] at hrb
   have hrvg : IsGas rv := by rw [hrv]; exact gadd_gas LG0.out (by omega)
   have HRV := Lh hrv
   have RVG := Lh hrvg
   have HRB := Lh hrb
   have CR := hrb.cell 0
   clear hrb hfo hrv hrvg
   have G6 := Lh (G5.out.setSum 2)
   have CSZ := G5.out.bs.frozen 0
   obtain ⟨t4, ht4⟩ : ∃ t, t = gtimes 4 (x.n + 1) := ⟨_, rfl⟩
   obtain ⟨tn, htn⟩ : ∃ t, t = gtimes rv x.n := ⟨_, rfl⟩
   have T4 : Hid (IsGas t4) := Lh (by rw [ht4]; exact gtimes_gas (by omega) (by omega))
   have TN : Hid (IsGas tn) := Lh (by rw [htn]; exact gtimes_gas RVG.out.1 hxn0)
   have two : Hid (IsGas 2) := Lh (by unfold IsGas maxB; omega)
   have four : IsGas 4 := by unfold IsGas maxB; omega
   have hwr : IntKind.i64.wrap (x.n + 1) = x.n + 1 := by
    have := IntKind.wrap_i64 (x.n + 1)
    rw [this]
    try unfold wrap64
    omega
   have hti : ∀ gg nn wx, (gg = 4 ∧ nn = IntKind.i64.wrap (x.n + 1)) ∨ (gg = rv ∧ nn = x.n) → Calls Try.prog 87 #[.int .i64 gg, .int .i64 nn] wx fun e w' => e = .returned (.int .i64 (gtimes gg nn)) ∧ wx = w' := fun gg nn wx h => by
    rcases h with ⟨rfl, rfl⟩ | ⟨rfl, rfl⟩
    ·rw [hwr]; exact times_any 4 (x.n + 1) wx four (by omega) (by omega)
    ·exact times_any _ x.n wx RVG.out hxn0 (by omega)
   have HTI := Lh hti
   have hts : gtimes 4 (IntKind.i64.wrap (x.n + 1)) = t4 := by rw [hwr, ht4]
   have HTS := Lh hts
   have HT4 := Lh ht4
   have HTN := Lh htn
   clear hti ht4 htn four hwr hts
   have hadd8 := add_any (w.heap.size + 1 + 1 + 1) w5.heap.size 0 2 2 2 [t4, tn] _ rfl (by omega) (G6.out.alloc (.cells #[.int .i64 t4, .int .i64 tn] 86)).drew.bs (by have := gvals_blk (l := [t4, tn]) (Blk.new ((w5.setCell ⟨w.heap.size + 1 + 1 + 1, 0, none⟩ (.int .i64 2))) 86 #[.int .i64 t4, .int .i64 tn]).drew; simpa using this) (by have h1 := G5.out.bs.lt; omega) (by simp; try omega) two.out (by intro y hy; simp at hy; rcases hy with rfl | rfl; exact T4.out; exact TN.out)
   have HADD8 := Lh hadd8
   clear hadd8
   have hrl := HRB.out.lt
   have hrx := G0.out.bs.lt
   have C26 := G6.out.cells_.2.1
   have hneR : wr.heap.size ≠ w.heap.size + 1 + 1 + 1 := by omega
   have CR6 := (HRB.out.far (p := ⟨w.heap.size + 1 + 1 + 1, 0, none⟩) hneR (.int .i64 2)).cell 0
   go_wp2_with fail
   go_region_held3 (fun w' => w'.cell? ⟨w.heap.size, 2, none⟩ = some (.int .i64 x.n) ∧ w'.cell? ⟨wr.heap.size, 0, none⟩ = some (.int .i64 rv)) (first | exact ⟨C26, CR6⟩ | exact C88 | go_keep) ((first | (go_at_call 87; refine (HTI.out _ _ _ ?_).mono ?_; (first | exact .inl ⟨rfl, rfl⟩ | exact .inr ⟨rfl, rfl⟩); rintro e w7 ⟨rfl, rfl⟩; (first | rw [HTS.out] | rw [← HTN.out])) | (go_at_call 46; refine HADD8.out.mono ?_; rintro e w8 ⟨rfl, hb8, hg8⟩; have HRB8 := HRB.out; have G8 := Lh ((G6.out.alloc (.cells #[.int .i64 t4, .int .i64 tn] 86)).drew.sum hb8 hg8); have C88 : w8.cell? ⟨w.heap.size, 2, none⟩ = some (.int .i64 x.n) ∧ w8.cell? ⟨wr.heap.size, 0, none⟩ = some (.int .i64 rv) := ⟨G8.out.cells_.2.1, (gb_blk hg8 (((HRB.out.far (p := ⟨w.heap.size + 1 + 1 + 1, 0, none⟩) hneR (.int .i64 2)).alloc (.cells #[.int .i64 t4, .int .i64 tn] 86)).drew) (by intro e; injection e with e; omega)).cell 0⟩; have CS8 := G8.out.cells_.2.2.2.1; clear hb8 hg8)))
   all_goals go_wp2_with fail
   all_goals go_ret
   all_goals exact ⟨by rw [HRES.out, ← HL0.out, ← HRV.out, ← HTN.out, ← HT4.out]; rfl, G8.out.bw, G8.out.gr⟩
end Go.Proofs.Ytggibiodeecljaa
namespace Go.Proofs.Ytggibiodeecljaa
open Go.RowKit
set_option linter.unusedVariables false
theorem fields_st (w : World) : Calls Try.prog 58 #[] w fun e w' => e = .returned (.slice (some ⟨w.heap.size + 13, 0, none⟩) 13 13) ∧ SignsAt w' w.heap.size (w.heap.size + 13) fieldsM ∧ Below w.heap.size w w' := by
 refine (fields_any w).mono ?_
 rintro e w' ⟨rfl, rfl⟩
 exact ⟨rfl, tableWorld_signs w fieldsM, tableWorld_below w fieldsM⟩
set_option maxRecDepth 100000 in
set_option maxHeartbeats 2000000 in
theorem node_field (wb tb toff cap : Nat) (ts : List Node) (c : Int) (hne : tb ≠ wb) (hl : ts.length ≤ 100000) (hc0 : 1 ≤ c) (hc1 : c ≤ 256) (i : Nat) (x : Node) (hi : i < ts.length) (hx : ts[i]? = some x) (hbe : 0 ≤ behind ts i) (r : Nat → Int) (w : World)
  (hw : Blk w wb 85 #[.slice (some ⟨tb, toff, none⟩) ts.length cap, .int .i64 i, .int .i64 c]) (hn : NodesAt w tb toff ts) (htb : tb < w.heap.size)
  (hr : ∀ j ∈ kidsOf ts i, NodeAtW wb tb toff cap ts c (r j) j ∧ IsGas (r j)) (hop : x.op = 49) (s : Sign) (hs : signOf fieldsM x.n = some s) :
  Calls Try.prog 47 #[.pointer (some ⟨wb, 0, none⟩)] w fun e w' => e = .returned (.int .i64 (gasF x ((kidsOf ts i).map r) c)) ∧
   Blk w' wb 85 #[.slice (some ⟨tb, toff, none⟩) ts.length cap, .int .i64 (behind ts i), .int .i64 c] ∧ w.grownBy w' (some wb) := by
 obtain ⟨n0, n1, n2, n3, n4, n5, n6⟩ := hn.all hx
 have W0 := hw.cell 0
 have W1 := hw.cell 1
 have W2 := hw.cell 2
 have W3 := hw.frozen 1
 have hwb := hw.lt
 obtain ⟨K, hK, hKl⟩ := kids_count hx hbe
 rw [hK] at n6
 have hKb : K ≤ 100000 := by rw [← hKl]; exact kidsOf_le hbe hl
 have hmk := fun wx => run_make_row' (P := Try.prog) 145 86 (.int .i64 0) 8 Try.underlying145 infoGas rfl .i64 .i64 K (by omega) (by omega) wx
 simp only [made_gvals] at hmk
 have ecells : (.cells #[.int .i8 x.op, .int .i8 x.kind, .int .i64 x.n, .int .i64 x.m, .string x.text, .int .i64 x.pos, .int .i64 (K : Int)] 42 : Obj) = .cells x.cells.toArray 42 := by simp [Node.cells, hK]
 have hst := gc_start (K := K) (x := x) hw hn htb hne ecells rfl
 have HST := Lh hst
 have HN := Lh hn
 have HR := Lh hr
 have HX := Lh hx
 have HKL := Lh hKl
 have HCH := Lh (kidsOf_chain hbe)
 obtain ⟨R, hRR⟩ : ∃ R, R = gasF x ((kidsOf ts i).map r) c := ⟨_, rfl⟩
 rw [← hRR]
 have HRR := Lh hRR
 obtain ⟨EN, hEN⟩ : ∃ EN, EN = behind ts i := ⟨_, rfl⟩
 rw [← hEN]
 have HEN := Lh hEN
 have HBE := Lh hbe
 have hneq : tb ≠ w.heap.size := by omega
 have hneq2 : wb ≠ w.heap.size := by omega
 generalize hZ : (gvals (List.replicate K 0)).toArray = Z at hmk
 have HZ := Lh hZ
 clear hw hn hr hx hKl hst ecells hRR hEN hbe hK hZ
 have q51 : (x.op == 51) = false := beq_false_of (by omega)
 have q52 : (x.op == 52) = false := beq_false_of (by omega)
 have q10 : (x.op == 10) = false := beq_false_of (by omega)
 have q13 : (x.op == 13) = false := beq_false_of (by omega)
 have q16 : (x.op == 16) = false := beq_false_of (by omega)
 have q14 : (x.op == 14) = false := beq_false_of (by omega)
 have q15 : (x.op == 15) = false := beq_false_of (by omega)
 have q49 : (x.op == 49) = true := beq_true_of hop
 have HOP := Lh hop
 clear hop
 have HSIG := Lh hs
 clear hs
 go_enter Try.func47, Try.ntmps47
 go_wp2_with fail
 go_region_held3 (fun w' => w'.cell? ⟨wb, 0, none⟩ = some (.slice (some ⟨tb, toff, none⟩) ts.length cap) ∧ w'.cell? ⟨wb, 1, none⟩ = some (.int .i64 i) ∧ w'.cell? ⟨tb, toff + i * 7, none⟩ = some (.int .i8 x.op) ∧ w'.cell? ⟨tb, toff + i * 7 + 1, none⟩ = some (.int .i8 x.kind) ∧ w'.cell? ⟨tb, toff + i * 7 + 2, none⟩ = some (.int .i64 x.n) ∧ w'.cell? ⟨tb, toff + i * 7 + 3, none⟩ = some (.int .i64 x.m) ∧ w'.cell? ⟨tb, toff + i * 7 + 4, none⟩ = some (.string x.text) ∧ w'.cell? ⟨tb, toff + i * 7 + 5, none⟩ = some (.int .i64 x.pos) ∧ w'.cell? ⟨tb, toff + i * 7 + 6, none⟩ = some (.int .i64 K)) (first | exact ⟨W0, W1, n0, n1, n2, n3, n4, n5, n6⟩ | go_keep) (skip)
 go_wp2_with fail
 go_loopw [6, 34] (fun _ iv wr => ∃ (k p : Nat) (cells : List Int) (S : Int), k ≤ K ∧ iv = .int .i64 k ∧ Hid (Chain ts p (behind ts i).toNat ((kidsOf ts i).drop k)) ∧ Hid (cells.take k = ((kidsOf ts i).map r).take k) ∧ Hid (S = (((kidsOf ts i).map r).take k).foldl gadd 0) ∧
   GC w wb tb toff cap ts c p x w.heap.size (w.heap.size + 1) (w.heap.size + 1 + 1) (w.heap.size + 1 + 1 + 1) K cells S wr)
  (fun _ iv _ => K - (intOf iv).toNat)
 case atStart =>
  refine ⟨0, i + 1, List.replicate K 0, 0, by omega, rfl, HCH.out, by simp [Hid], by simp [Hid], ?_⟩
  have h := HST.out
  rw [HZ.out] at h
  exact h
 case round =>
  obtain ⟨k, p, cells, S, hk, rfl, HC, HT, HS, hG⟩ := hrel
  by_cases hlt : k < K
  ·obtain ⟨j, hj⟩ : ∃ j, (kidsOf ts i)[k]? = some j := ⟨_, List.getElem?_eq_getElem (by rw [HKL.out]; exact hlt)⟩
   have hdrop : (kidsOf ts i).drop k = j :: (kidsOf ts i).drop (k + 1) := by
    obtain ⟨h2, h3⟩ := List.getElem?_eq_some_iff.1 hj
    rw [List.drop_eq_getElem_cons h2, h3]
   have hC1 := HC.out
   rw [hdrop] at hC1
   obtain ⟨rfl, g1, g2, g3⟩ := hC1
   obtain ⟨hnode, hgas⟩ := HR.out j (List.mem_of_getElem? hj)
   have hbj : (behind ts j) = ((behind ts j).toNat : Int) := (Int.toNat_of_nonneg g1).symm
   obtain ⟨q, hq⟩ : ∃ q, (behind ts j).toNat = q := ⟨_, rfl⟩
   rw [hq] at hbj g3
   have hSg : IsGas S := by
    rw [HS.out]
    refine foldl_gas _ _ zero_gas fun y hy => ?_
    obtain ⟨j2, hj2, rfl⟩ := List.mem_map.1 (List.mem_of_mem_take hy)
    exact (HR.out j2 hj2).2
   have htk : ((kidsOf ts i).map r).take (k + 1) = ((kidsOf ts i).map r).take k ++ [r j] := by
    rw [List.take_add_one, List.getElem?_map, hj]; rfl
   have hcl := hG.len
   obtain ⟨C0, C2, CX, CS, CW⟩ := hG.cells_
   have hkI : (k : Int) < K := by omega
   have hGw := hG.drew.bw
   have HND := Lh hnode
   have HGA := Lh hgas
   have HSG := Lh hSg
   have HTK := Lh htk
   have HG3 := Lh g3
   have HBJ := Lh hbj
   have HG := Lh hG
   clear hnode hgas hSg htk g3 hbj hdrop hG hGw C0 C2 CS CW
   obtain ⟨V, hV⟩ : ∃ V, V = r j := ⟨_, rfl⟩
   have HV := Lh hV
   rw [← hV] at HND HGA HTK
   clear hV hj hq
   go_wp2_with fail
   go_region_held3 (fun w' => w'.cell? ⟨w.heap.size + 1 + 1, 0, none⟩ = some (.slice (some ⟨w.heap.size + 1, 0, none⟩) K K)) (first | exact CX | exact CX2 | go_keep) ((first | (go_at_call 47; refine (HND.out _ HG.out.drew.bw HG.out.drew.nodes (Nat.lt_of_lt_of_le HG.out.htb HG.out.drew.gr.size)).mono ?_; rintro e w2 ⟨rfl, hb2, hg2⟩; rw [HBJ.out] at hb2; have G2 := Lh (HG.out.drew.went q hb2 hg2); have CX2 := G2.out.cells_.2.2.1; have CK := G2.out.at_ k hlt; have CZ := G2.out.bl.frozen k; clear hb2 hg2)))
   have G3 := Lh (G2.out.setCost k V)
   have hadd := add_any (w.heap.size + 1 + 1 + 1) w2.heap.size 0 1 1 S [V] _ rfl (by omega) (G3.out.alloc (.cells #[.int .i64 V] 86)).bs (by have := gone (w2.setCell ⟨w.heap.size + 1, k, none⟩ (.int .i64 V)) V; simpa using this) (by have h1 := G2.out.bs.lt; omega) (by simp) HSG.out (by intro y hy; simp at hy; subst hy; exact HGA.out)
   have HADD := Lh hadd
   clear hadd
   go_wp2_with fail
   refine HADD.out.mono ?_
   rintro e w3 ⟨rfl, hb3, hg3⟩
   have G4 := Lh ((G3.out.alloc _).sum hb3 hg3)
   clear hb3 hg3
   go_wp2_with fail
   go_roundw
   case rel =>
    refine ⟨k + 1, q, cells.set k V, gadd S V, by omega, by go_num, HG3.out, ?_, ?_, G4.out⟩
    ·show _ = _
     rw [HTK.out, take_set_succ _ _ _ (by omega)]
     exact congrArg (· ++ [V]) HT.out
    ·show _ = _
     rw [HTK.out, List.foldl_append, ← HS.out]
     rfl
   case measure => (simp [intOf]; try omega)
  ·have hkK : k = K := by omega
   have hcells : cells = (kidsOf ts i).map r := by
    have h1 := HT.out
    rw [List.take_of_length_le (by have := hG.len; omega), List.take_of_length_le (by rw [List.length_map, HKL.out]; omega)] at h1
    exact h1
   have hS : S = ((kidsOf ts i).map r).foldl gadd 0 := by
    rw [HS.out, List.take_of_length_le (by rw [List.length_map, HKL.out]; omega)]
   have hp : (p : Int) = EN := by
    have h1 := HC.out
    rw [List.drop_of_length_le (by rw [HKL.out]; omega)] at h1
    simp only [Chain] at h1
    rw [HEN.out, h1]
    exact Int.toNat_of_nonneg HBE.out
   rw [hp] at hG
   subst hcells hkK
   obtain ⟨L, hL⟩ : ∃ L, L = (kidsOf ts i).map r := ⟨_, rfl⟩
   rw [← hL] at hG hS HRR
   have hLg : ∀ y ∈ L, IsGas y := by
    rw [hL]
    intro y hy
    obtain ⟨j2, hj2, rfl⟩ := List.mem_map.1 hy
    exact (HR.out j2 hj2).2
   have hSg : IsGas S := by rw [hS]; exact foldl_gas _ _ zero_gas hLg
   have hLK := hG.len
   obtain ⟨C0, C2, CX, CS, CW⟩ := hG.cells_
   have HLG := Lh hLg
   have HSG := Lh hSg
   have HSS := Lh hS
   have HLL := Lh hL
   have HLK := Lh hLK
   have G0 := Lh hG
   clear hLg hSg hS hL hLK hG hp HC HT HS
   have hres : R = gadd S (costsF fieldsM x.n c) := by
    rw [HRR.out]
    have hop := HOP.out
    unfold gasF
    simp [hop, HSS.out]
   have HRES := Lh hres
   clear hres
   obtain ⟨cg, hcg⟩ : ∃ t, t = costsF fieldsM x.n c := ⟨_, rfl⟩
   have CG : Hid (IsGas cg) := Lh (by rw [hcg]; have h1 := costsF_pos fieldsM x.n (c := c) (by omega); have h2 := costsF_le fieldsM x.n (c := c) (by omega); unfold IsGas maxB; omega)
   have HCG := Lh hcg
   clear hcg
   have hrx := G0.out.bs.lt
   go_wp2_with fail
   go_region_held3 (fun w' => w'.cell? ⟨w.heap.size, 2, none⟩ = some (.int .i64 x.n) ∧ w'.cell? ⟨wb, 2, none⟩ = some (.int .i64 c)) (first | exact ⟨C2, CW⟩ | exact C55 | exact C88 | go_keep) ((first | (go_at_call 58; refine (fields_st _).mono ?_; rintro e w5 ⟨rfl, hsg, hbl⟩; have G5 := Lh (G0.out.drew.other (gb_below hbl none) (fun g e => by cases e)); have C55 : w5.cell? ⟨w.heap.size, 2, none⟩ = some (.int .i64 x.n) ∧ w5.cell? ⟨wb, 2, none⟩ = some (.int .i64 c) := ⟨G5.out.cells_.2.1, G5.out.cells_.2.2.2.2⟩; have HSGN := Lh hsg; clear hsg hbl) | (go_at_call 57; refine (costs_any _ _ fieldsM 13 13 x.n c s _ rfl (by omega) HSGN.out HSIG.out hc0 hc1).mono ?_; rintro e w6 ⟨rfl, rfl⟩; rw [← HCG.out]) | (go_at_call 46; refine (add_any (w.heap.size + 1 + 1 + 1) w5.heap.size 0 1 1 S [cg] _ rfl (by omega) (G5.out.alloc (.cells #[.int .i64 cg] 86)).bs (gvals_blk (l := [cg]) (Blk.new w5 86 #[.int .i64 cg])) (by have h1 := G5.out.bs.lt; omega) (by simp) HSG.out (by intro y hy; simp at hy; subst hy; exact CG.out)).mono ?_; rintro e w8 ⟨rfl, hb8, hg8⟩; have G8 := Lh ((G5.out.alloc (.cells #[.int .i64 cg] 86)).sum hb8 hg8); have C88 : w8.cell? ⟨w.heap.size, 2, none⟩ = some (.int .i64 x.n) ∧ w8.cell? ⟨wb, 2, none⟩ = some (.int .i64 c) := ⟨G8.out.cells_.2.1, G8.out.cells_.2.2.2.2⟩; have CS8 := G8.out.cells_.2.2.2.1; clear hb8 hg8)))
   all_goals go_wp2_with fail
   all_goals go_ret
   all_goals exact ⟨by rw [HRES.out, ← HCG.out]; rfl, G8.out.bw, G8.out.gr⟩
end Go.Proofs.Ytggibiodeecljaa
namespace Go.Proofs.Ytggibiodeecljaa
open Go.RowKit
set_option linter.unusedVariables false
theorem funcs_st (w : World) : Calls Try.prog 60 #[] w fun e w' => e = .returned (.slice (some ⟨w.heap.size + 9, 0, none⟩) 9 9) ∧ SignsAt w' w.heap.size (w.heap.size + 9) funcsM ∧ Below w.heap.size w w' := by
 refine (funcs_any w).mono ?_
 rintro e w' ⟨rfl, rfl⟩
 exact ⟨rfl, tableWorld_signs w funcsM, tableWorld_below w funcsM⟩
set_option maxRecDepth 100000 in
set_option maxHeartbeats 2000000 in
theorem node_call (wb tb toff cap : Nat) (ts : List Node) (c : Int) (hne : tb ≠ wb) (hl : ts.length ≤ 100000) (hc0 : 1 ≤ c) (hc1 : c ≤ 256) (i : Nat) (x : Node) (hi : i < ts.length) (hx : ts[i]? = some x) (hbe : 0 ≤ behind ts i) (r : Nat → Int) (w : World)
  (hw : Blk w wb 85 #[.slice (some ⟨tb, toff, none⟩) ts.length cap, .int .i64 i, .int .i64 c]) (hn : NodesAt w tb toff ts) (htb : tb < w.heap.size)
  (hr : ∀ j ∈ kidsOf ts i, NodeAtW wb tb toff cap ts c (r j) j ∧ IsGas (r j)) (hop : x.op = 50) (s : Sign) (hs : signOf funcsM x.n = some s) :
  Calls Try.prog 47 #[.pointer (some ⟨wb, 0, none⟩)] w fun e w' => e = .returned (.int .i64 (gasF x ((kidsOf ts i).map r) c)) ∧
   Blk w' wb 85 #[.slice (some ⟨tb, toff, none⟩) ts.length cap, .int .i64 (behind ts i), .int .i64 c] ∧ w.grownBy w' (some wb) := by
 obtain ⟨n0, n1, n2, n3, n4, n5, n6⟩ := hn.all hx
 have W0 := hw.cell 0
 have W1 := hw.cell 1
 have W2 := hw.cell 2
 have W3 := hw.frozen 1
 have hwb := hw.lt
 obtain ⟨K, hK, hKl⟩ := kids_count hx hbe
 rw [hK] at n6
 have hKb : K ≤ 100000 := by rw [← hKl]; exact kidsOf_le hbe hl
 have hmk := fun wx => run_make_row' (P := Try.prog) 145 86 (.int .i64 0) 8 Try.underlying145 infoGas rfl .i64 .i64 K (by omega) (by omega) wx
 simp only [made_gvals] at hmk
 have ecells : (.cells #[.int .i8 x.op, .int .i8 x.kind, .int .i64 x.n, .int .i64 x.m, .string x.text, .int .i64 x.pos, .int .i64 (K : Int)] 42 : Obj) = .cells x.cells.toArray 42 := by simp [Node.cells, hK]
 have hst := gc_start (K := K) (x := x) hw hn htb hne ecells rfl
 have HST := Lh hst
 have HN := Lh hn
 have HR := Lh hr
 have HX := Lh hx
 have HKL := Lh hKl
 have HCH := Lh (kidsOf_chain hbe)
 obtain ⟨R, hRR⟩ : ∃ R, R = gasF x ((kidsOf ts i).map r) c := ⟨_, rfl⟩
 rw [← hRR]
 have HRR := Lh hRR
 obtain ⟨EN, hEN⟩ : ∃ EN, EN = behind ts i := ⟨_, rfl⟩
 rw [← hEN]
 have HEN := Lh hEN
 have HBE := Lh hbe
 have hneq : tb ≠ w.heap.size := by omega
 have hneq2 : wb ≠ w.heap.size := by omega
 generalize hZ : (gvals (List.replicate K 0)).toArray = Z at hmk
 have HZ := Lh hZ
 clear hw hn hr hx hKl hst ecells hRR hEN hbe hK hZ
 have q51 : (x.op == 51) = false := beq_false_of (by omega)
 have q52 : (x.op == 52) = false := beq_false_of (by omega)
 have q10 : (x.op == 10) = false := beq_false_of (by omega)
 have q13 : (x.op == 13) = false := beq_false_of (by omega)
 have q16 : (x.op == 16) = false := beq_false_of (by omega)
 have q14 : (x.op == 14) = false := beq_false_of (by omega)
 have q15 : (x.op == 15) = false := beq_false_of (by omega)
 have q49 : (x.op == 49) = false := beq_false_of (by omega)
 have q50 : (x.op == 50) = true := beq_true_of hop
 have HOP := Lh hop
 clear hop
 have HSIG := Lh hs
 clear hs
 go_enter Try.func47, Try.ntmps47
 go_wp2_with fail
 go_region_held3 (fun w' => w'.cell? ⟨wb, 0, none⟩ = some (.slice (some ⟨tb, toff, none⟩) ts.length cap) ∧ w'.cell? ⟨wb, 1, none⟩ = some (.int .i64 i) ∧ w'.cell? ⟨tb, toff + i * 7, none⟩ = some (.int .i8 x.op) ∧ w'.cell? ⟨tb, toff + i * 7 + 1, none⟩ = some (.int .i8 x.kind) ∧ w'.cell? ⟨tb, toff + i * 7 + 2, none⟩ = some (.int .i64 x.n) ∧ w'.cell? ⟨tb, toff + i * 7 + 3, none⟩ = some (.int .i64 x.m) ∧ w'.cell? ⟨tb, toff + i * 7 + 4, none⟩ = some (.string x.text) ∧ w'.cell? ⟨tb, toff + i * 7 + 5, none⟩ = some (.int .i64 x.pos) ∧ w'.cell? ⟨tb, toff + i * 7 + 6, none⟩ = some (.int .i64 K)) (first | exact ⟨W0, W1, n0, n1, n2, n3, n4, n5, n6⟩ | go_keep) (skip)
 go_wp2_with fail
 go_loopw [6, 34] (fun _ iv wr => ∃ (k p : Nat) (cells : List Int) (S : Int), k ≤ K ∧ iv = .int .i64 k ∧ Hid (Chain ts p (behind ts i).toNat ((kidsOf ts i).drop k)) ∧ Hid (cells.take k = ((kidsOf ts i).map r).take k) ∧ Hid (S = (((kidsOf ts i).map r).take k).foldl gadd 0) ∧
   GC w wb tb toff cap ts c p x w.heap.size (w.heap.size + 1) (w.heap.size + 1 + 1) (w.heap.size + 1 + 1 + 1) K cells S wr)
  (fun _ iv _ => K - (intOf iv).toNat)
 case atStart =>
  refine ⟨0, i + 1, List.replicate K 0, 0, by omega, rfl, HCH.out, by simp [Hid], by simp [Hid], ?_⟩
  have h := HST.out
  rw [HZ.out] at h
  exact h
 case round =>
  obtain ⟨k, p, cells, S, hk, rfl, HC, HT, HS, hG⟩ := hrel
  by_cases hlt : k < K
  ·obtain ⟨j, hj⟩ : ∃ j, (kidsOf ts i)[k]? = some j := ⟨_, List.getElem?_eq_getElem (by rw [HKL.out]; exact hlt)⟩
   have hdrop : (kidsOf ts i).drop k = j :: (kidsOf ts i).drop (k + 1) := by
    obtain ⟨h2, h3⟩ := List.getElem?_eq_some_iff.1 hj
    rw [List.drop_eq_getElem_cons h2, h3]
   have hC1 := HC.out
   rw [hdrop] at hC1
   obtain ⟨rfl, g1, g2, g3⟩ := hC1
   obtain ⟨hnode, hgas⟩ := HR.out j (List.mem_of_getElem? hj)
   have hbj : (behind ts j) = ((behind ts j).toNat : Int) := (Int.toNat_of_nonneg g1).symm
   obtain ⟨q, hq⟩ : ∃ q, (behind ts j).toNat = q := ⟨_, rfl⟩
   rw [hq] at hbj g3
   have hSg : IsGas S := by
    rw [HS.out]
    refine foldl_gas _ _ zero_gas fun y hy => ?_
    obtain ⟨j2, hj2, rfl⟩ := List.mem_map.1 (List.mem_of_mem_take hy)
    exact (HR.out j2 hj2).2
   have htk : ((kidsOf ts i).map r).take (k + 1) = ((kidsOf ts i).map r).take k ++ [r j] := by
    rw [List.take_add_one, List.getElem?_map, hj]; rfl
   have hcl := hG.len
   obtain ⟨C0, C2, CX, CS, CW⟩ := hG.cells_
   have hkI : (k : Int) < K := by omega
   have hGw := hG.drew.bw
   have HND := Lh hnode
   have HGA := Lh hgas
   have HSG := Lh hSg
   have HTK := Lh htk
   have HG3 := Lh g3
   have HBJ := Lh hbj
   have HG := Lh hG
   clear hnode hgas hSg htk g3 hbj hdrop hG hGw C0 C2 CS CW
   obtain ⟨V, hV⟩ : ∃ V, V = r j := ⟨_, rfl⟩
   have HV := Lh hV
   rw [← hV] at HND HGA HTK
   clear hV hj hq
   go_wp2_with fail
   go_region_held3 (fun w' => w'.cell? ⟨w.heap.size + 1 + 1, 0, none⟩ = some (.slice (some ⟨w.heap.size + 1, 0, none⟩) K K)) (first | exact CX | exact CX2 | go_keep) ((first | (go_at_call 47; refine (HND.out _ HG.out.drew.bw HG.out.drew.nodes (Nat.lt_of_lt_of_le HG.out.htb HG.out.drew.gr.size)).mono ?_; rintro e w2 ⟨rfl, hb2, hg2⟩; rw [HBJ.out] at hb2; have G2 := Lh (HG.out.drew.went q hb2 hg2); have CX2 := G2.out.cells_.2.2.1; have CK := G2.out.at_ k hlt; have CZ := G2.out.bl.frozen k; clear hb2 hg2)))
   have G3 := Lh (G2.out.setCost k V)
   have hadd := add_any (w.heap.size + 1 + 1 + 1) w2.heap.size 0 1 1 S [V] _ rfl (by omega) (G3.out.alloc (.cells #[.int .i64 V] 86)).bs (by have := gone (w2.setCell ⟨w.heap.size + 1, k, none⟩ (.int .i64 V)) V; simpa using this) (by have h1 := G2.out.bs.lt; omega) (by simp) HSG.out (by intro y hy; simp at hy; subst hy; exact HGA.out)
   have HADD := Lh hadd
   clear hadd
   go_wp2_with fail
   refine HADD.out.mono ?_
   rintro e w3 ⟨rfl, hb3, hg3⟩
   have G4 := Lh ((G3.out.alloc _).sum hb3 hg3)
   clear hb3 hg3
   go_wp2_with fail
   go_roundw
   case rel =>
    refine ⟨k + 1, q, cells.set k V, gadd S V, by omega, by go_num, HG3.out, ?_, ?_, G4.out⟩
    ·show _ = _
     rw [HTK.out, take_set_succ _ _ _ (by omega)]
     exact congrArg (· ++ [V]) HT.out
    ·show _ = _
     rw [HTK.out, List.foldl_append, ← HS.out]
     rfl
   case measure => (simp [intOf]; try omega)
  ·have hkK : k = K := by omega
   have hcells : cells = (kidsOf ts i).map r := by
    have h1 := HT.out
    rw [List.take_of_length_le (by have := hG.len; omega), List.take_of_length_le (by rw [List.length_map, HKL.out]; omega)] at h1
    exact h1
   have hS : S = ((kidsOf ts i).map r).foldl gadd 0 := by
    rw [HS.out, List.take_of_length_le (by rw [List.length_map, HKL.out]; omega)]
   have hp : (p : Int) = EN := by
    have h1 := HC.out
    rw [List.drop_of_length_le (by rw [HKL.out]; omega)] at h1
    simp only [Chain] at h1
    rw [HEN.out, h1]
    exact Int.toNat_of_nonneg HBE.out
   rw [hp] at hG
   subst hcells hkK
   obtain ⟨L, hL⟩ : ∃ L, L = (kidsOf ts i).map r := ⟨_, rfl⟩
   rw [← hL] at hG hS HRR
   have hLg : ∀ y ∈ L, IsGas y := by
    rw [hL]
    intro y hy
    obtain ⟨j2, hj2, rfl⟩ := List.mem_map.1 hy
    exact (HR.out j2 hj2).2
   have hSg : IsGas S := by rw [hS]; exact foldl_gas _ _ zero_gas hLg
   have hLK := hG.len
   obtain ⟨C0, C2, CX, CS, CW⟩ := hG.cells_
   have HLG := Lh hLg
   have HSG := Lh hSg
   have HSS := Lh hS
   have HLL := Lh hL
   have HLK := Lh hLK
   have G0 := Lh hG
   clear hLg hSg hS hL hLK hG hp HC HT HS
   have hres : R = gadd S (costsF funcsM x.n c) := by
    rw [HRR.out]
    have hop := HOP.out
    unfold gasF
    simp [hop, HSS.out]
   have HRES := Lh hres
   clear hres
   obtain ⟨cg, hcg⟩ : ∃ t, t = costsF funcsM x.n c := ⟨_, rfl⟩
   have CG : Hid (IsGas cg) := Lh (by rw [hcg]; have h1 := costsF_pos funcsM x.n (c := c) (by omega); have h2 := costsF_le funcsM x.n (c := c) (by omega); unfold IsGas maxB; omega)
   have HCG := Lh hcg
   clear hcg
   have hrx := G0.out.bs.lt
   go_wp2_with fail
   go_region_held3 (fun w' => w'.cell? ⟨w.heap.size, 2, none⟩ = some (.int .i64 x.n) ∧ w'.cell? ⟨wb, 2, none⟩ = some (.int .i64 c)) (first | exact ⟨C2, CW⟩ | exact C55 | exact C88 | go_keep) ((first | (go_at_call 60; refine (funcs_st _).mono ?_; rintro e w5 ⟨rfl, hsg, hbl⟩; have G5 := Lh (G0.out.drew.other (gb_below hbl none) (fun g e => by cases e)); have C55 : w5.cell? ⟨w.heap.size, 2, none⟩ = some (.int .i64 x.n) ∧ w5.cell? ⟨wb, 2, none⟩ = some (.int .i64 c) := ⟨G5.out.cells_.2.1, G5.out.cells_.2.2.2.2⟩; have HSGN := Lh hsg; clear hsg hbl) | (go_at_call 57; refine (costs_any _ _ funcsM 9 9 x.n c s _ rfl (by omega) HSGN.out HSIG.out hc0 hc1).mono ?_; rintro e w6 ⟨rfl, rfl⟩; rw [← HCG.out]) | (go_at_call 46; refine (add_any (w.heap.size + 1 + 1 + 1) w5.heap.size 0 1 1 S [cg] _ rfl (by omega) (G5.out.alloc (.cells #[.int .i64 cg] 86)).bs (gvals_blk (l := [cg]) (Blk.new w5 86 #[.int .i64 cg])) (by have h1 := G5.out.bs.lt; omega) (by simp) HSG.out (by intro y hy; simp at hy; subst hy; exact CG.out)).mono ?_; rintro e w8 ⟨rfl, hb8, hg8⟩; have G8 := Lh ((G5.out.alloc (.cells #[.int .i64 cg] 86)).sum hb8 hg8); have C88 : w8.cell? ⟨w.heap.size, 2, none⟩ = some (.int .i64 x.n) ∧ w8.cell? ⟨wb, 2, none⟩ = some (.int .i64 c) := ⟨G8.out.cells_.2.1, G8.out.cells_.2.2.2.2⟩; have CS8 := G8.out.cells_.2.2.2.1; clear hb8 hg8)))
   all_goals go_wp2_with fail
   all_goals go_ret
   all_goals exact ⟨by rw [HRES.out, ← HCG.out]; rfl, G8.out.bw, G8.out.gr⟩
end Go.Proofs.Ytggibiodeecljaa
namespace Go.Proofs.Ytggibiodeecljaa
open Go.RowKit
set_option linter.unusedVariables false
theorem effects_st (w : World) : Calls Try.prog 59 #[] w fun e w' => e = .returned (.slice (some ⟨w.heap.size + 9, 0, none⟩) 9 9) ∧ SignsAt w' w.heap.size (w.heap.size + 9) effectsM ∧ Below w.heap.size w w' := by
 refine (effects_any w).mono ?_
 rintro e w' ⟨rfl, rfl⟩
 exact ⟨rfl, tableWorld_signs w effectsM, tableWorld_below w effectsM⟩
set_option maxRecDepth 100000 in
set_option maxHeartbeats 2000000 in
theorem node_do (wb tb toff cap : Nat) (ts : List Node) (c : Int) (hne : tb ≠ wb) (hl : ts.length ≤ 100000) (hc0 : 1 ≤ c) (hc1 : c ≤ 256) (i : Nat) (x : Node) (hi : i < ts.length) (hx : ts[i]? = some x) (hbe : 0 ≤ behind ts i) (r : Nat → Int) (w : World)
  (hw : Blk w wb 85 #[.slice (some ⟨tb, toff, none⟩) ts.length cap, .int .i64 i, .int .i64 c]) (hn : NodesAt w tb toff ts) (htb : tb < w.heap.size)
  (hr : ∀ j ∈ kidsOf ts i, NodeAtW wb tb toff cap ts c (r j) j ∧ IsGas (r j)) (hop : x.op = 19) (s : Sign) (hs : signOf effectsM x.n = some s) :
  Calls Try.prog 47 #[.pointer (some ⟨wb, 0, none⟩)] w fun e w' => e = .returned (.int .i64 (gasF x ((kidsOf ts i).map r) c)) ∧
   Blk w' wb 85 #[.slice (some ⟨tb, toff, none⟩) ts.length cap, .int .i64 (behind ts i), .int .i64 c] ∧ w.grownBy w' (some wb) := by
 obtain ⟨n0, n1, n2, n3, n4, n5, n6⟩ := hn.all hx
 have W0 := hw.cell 0
 have W1 := hw.cell 1
 have W2 := hw.cell 2
 have W3 := hw.frozen 1
 have hwb := hw.lt
 obtain ⟨K, hK, hKl⟩ := kids_count hx hbe
 rw [hK] at n6
 have hKb : K ≤ 100000 := by rw [← hKl]; exact kidsOf_le hbe hl
 have hmk := fun wx => run_make_row' (P := Try.prog) 145 86 (.int .i64 0) 8 Try.underlying145 infoGas rfl .i64 .i64 K (by omega) (by omega) wx
 simp only [made_gvals] at hmk
 have ecells : (.cells #[.int .i8 x.op, .int .i8 x.kind, .int .i64 x.n, .int .i64 x.m, .string x.text, .int .i64 x.pos, .int .i64 (K : Int)] 42 : Obj) = .cells x.cells.toArray 42 := by simp [Node.cells, hK]
 have hst := gc_start (K := K) (x := x) hw hn htb hne ecells rfl
 have HST := Lh hst
 have HN := Lh hn
 have HR := Lh hr
 have HX := Lh hx
 have HKL := Lh hKl
 have HCH := Lh (kidsOf_chain hbe)
 obtain ⟨R, hRR⟩ : ∃ R, R = gasF x ((kidsOf ts i).map r) c := ⟨_, rfl⟩
 rw [← hRR]
 have HRR := Lh hRR
 obtain ⟨EN, hEN⟩ : ∃ EN, EN = behind ts i := ⟨_, rfl⟩
 rw [← hEN]
 have HEN := Lh hEN
 have HBE := Lh hbe
 have hneq : tb ≠ w.heap.size := by omega
 have hneq2 : wb ≠ w.heap.size := by omega
 generalize hZ : (gvals (List.replicate K 0)).toArray = Z at hmk
 have HZ := Lh hZ
 clear hw hn hr hx hKl hst ecells hRR hEN hbe hK hZ
 have q51 : (x.op == 51) = false := beq_false_of (by omega)
 have q52 : (x.op == 52) = false := beq_false_of (by omega)
 have q10 : (x.op == 10) = false := beq_false_of (by omega)
 have q13 : (x.op == 13) = false := beq_false_of (by omega)
 have q16 : (x.op == 16) = false := beq_false_of (by omega)
 have q14 : (x.op == 14) = false := beq_false_of (by omega)
 have q15 : (x.op == 15) = false := beq_false_of (by omega)
 have q49 : (x.op == 49) = false := beq_false_of (by omega)
 have q50 : (x.op == 50) = false := beq_false_of (by omega)
 have q19 : (x.op == 19) = true := beq_true_of hop
 have HOP := Lh hop
 clear hop
 have HSIG := Lh hs
 clear hs
 go_enter Try.func47, Try.ntmps47
 go_wp2_with fail
 go_region_held3 (fun w' => w'.cell? ⟨wb, 0, none⟩ = some (.slice (some ⟨tb, toff, none⟩) ts.length cap) ∧ w'.cell? ⟨wb, 1, none⟩ = some (.int .i64 i) ∧ w'.cell? ⟨tb, toff + i * 7, none⟩ = some (.int .i8 x.op) ∧ w'.cell? ⟨tb, toff + i * 7 + 1, none⟩ = some (.int .i8 x.kind) ∧ w'.cell? ⟨tb, toff + i * 7 + 2, none⟩ = some (.int .i64 x.n) ∧ w'.cell? ⟨tb, toff + i * 7 + 3, none⟩ = some (.int .i64 x.m) ∧ w'.cell? ⟨tb, toff + i * 7 + 4, none⟩ = some (.string x.text) ∧ w'.cell? ⟨tb, toff + i * 7 + 5, none⟩ = some (.int .i64 x.pos) ∧ w'.cell? ⟨tb, toff + i * 7 + 6, none⟩ = some (.int .i64 K)) (first | exact ⟨W0, W1, n0, n1, n2, n3, n4, n5, n6⟩ | go_keep) (skip)
 go_wp2_with fail
 go_loopw [6, 34] (fun _ iv wr => ∃ (k p : Nat) (cells : List Int) (S : Int), k ≤ K ∧ iv = .int .i64 k ∧ Hid (Chain ts p (behind ts i).toNat ((kidsOf ts i).drop k)) ∧ Hid (cells.take k = ((kidsOf ts i).map r).take k) ∧ Hid (S = (((kidsOf ts i).map r).take k).foldl gadd 0) ∧
   GC w wb tb toff cap ts c p x w.heap.size (w.heap.size + 1) (w.heap.size + 1 + 1) (w.heap.size + 1 + 1 + 1) K cells S wr)
  (fun _ iv _ => K - (intOf iv).toNat)
 case atStart =>
  refine ⟨0, i + 1, List.replicate K 0, 0, by omega, rfl, HCH.out, by simp [Hid], by simp [Hid], ?_⟩
  have h := HST.out
  rw [HZ.out] at h
  exact h
 case round =>
  obtain ⟨k, p, cells, S, hk, rfl, HC, HT, HS, hG⟩ := hrel
  by_cases hlt : k < K
  ·obtain ⟨j, hj⟩ : ∃ j, (kidsOf ts i)[k]? = some j := ⟨_, List.getElem?_eq_getElem (by rw [HKL.out]; exact hlt)⟩
   have hdrop : (kidsOf ts i).drop k = j :: (kidsOf ts i).drop (k + 1) := by
    obtain ⟨h2, h3⟩ := List.getElem?_eq_some_iff.1 hj
    rw [List.drop_eq_getElem_cons h2, h3]
   have hC1 := HC.out
   rw [hdrop] at hC1
   obtain ⟨rfl, g1, g2, g3⟩ := hC1
   obtain ⟨hnode, hgas⟩ := HR.out j (List.mem_of_getElem? hj)
   have hbj : (behind ts j) = ((behind ts j).toNat : Int) := (Int.toNat_of_nonneg g1).symm
   obtain ⟨q, hq⟩ : ∃ q, (behind ts j).toNat = q := ⟨_, rfl⟩
   rw [hq] at hbj g3
   have hSg : IsGas S := by
    rw [HS.out]
    refine foldl_gas _ _ zero_gas fun y hy => ?_
    obtain ⟨j2, hj2, rfl⟩ := List.mem_map.1 (List.mem_of_mem_take hy)
    exact (HR.out j2 hj2).2
   have htk : ((kidsOf ts i).map r).take (k + 1) = ((kidsOf ts i).map r).take k ++ [r j] := by
    rw [List.take_add_one, List.getElem?_map, hj]; rfl
   have hcl := hG.len
   obtain ⟨C0, C2, CX, CS, CW⟩ := hG.cells_
   have hkI : (k : Int) < K := by omega
   have hGw := hG.drew.bw
   have HND := Lh hnode
   have HGA := Lh hgas
   have HSG := Lh hSg
   have HTK := Lh htk
   have HG3 := Lh g3
   have HBJ := Lh hbj
   have HG := Lh hG
   clear hnode hgas hSg htk g3 hbj hdrop hG hGw C0 C2 CS CW
   obtain ⟨V, hV⟩ : ∃ V, V = r j := ⟨_, rfl⟩
   have HV := Lh hV
   rw [← hV] at HND HGA HTK
   clear hV hj hq
   go_wp2_with fail
   go_region_held3 (fun w' => w'.cell? ⟨w.heap.size + 1 + 1, 0, none⟩ = some (.slice (some ⟨w.heap.size + 1, 0, none⟩) K K)) (first | exact CX | exact CX2 | go_keep) ((first | (go_at_call 47; refine (HND.out _ HG.out.drew.bw HG.out.drew.nodes (Nat.lt_of_lt_of_le HG.out.htb HG.out.drew.gr.size)).mono ?_; rintro e w2 ⟨rfl, hb2, hg2⟩; rw [HBJ.out] at hb2; have G2 := Lh (HG.out.drew.went q hb2 hg2); have CX2 := G2.out.cells_.2.2.1; have CK := G2.out.at_ k hlt; have CZ := G2.out.bl.frozen k; clear hb2 hg2)))
   have G3 := Lh (G2.out.setCost k V)
   have hadd := add_any (w.heap.size + 1 + 1 + 1) w2.heap.size 0 1 1 S [V] _ rfl (by omega) (G3.out.alloc (.cells #[.int .i64 V] 86)).bs (by have := gone (w2.setCell ⟨w.heap.size + 1, k, none⟩ (.int .i64 V)) V; simpa using this) (by have h1 := G2.out.bs.lt; omega) (by simp) HSG.out (by intro y hy; simp at hy; subst hy; exact HGA.out)
   have HADD := Lh hadd
   clear hadd
   go_wp2_with fail
   refine HADD.out.mono ?_
   rintro e w3 ⟨rfl, hb3, hg3⟩
   have G4 := Lh ((G3.out.alloc _).sum hb3 hg3)
   clear hb3 hg3
   go_wp2_with fail
   go_roundw
   case rel =>
    refine ⟨k + 1, q, cells.set k V, gadd S V, by omega, by go_num, HG3.out, ?_, ?_, G4.out⟩
    ·show _ = _
     rw [HTK.out, take_set_succ _ _ _ (by omega)]
     exact congrArg (· ++ [V]) HT.out
    ·show _ = _
     rw [HTK.out, List.foldl_append, ← HS.out]
     rfl
   case measure => (simp [intOf]; try omega)
  ·have hkK : k = K := by omega
   have hcells : cells = (kidsOf ts i).map r := by
    have h1 := HT.out
    rw [List.take_of_length_le (by have := hG.len; omega), List.take_of_length_le (by rw [List.length_map, HKL.out]; omega)] at h1
    exact h1
   have hS : S = ((kidsOf ts i).map r).foldl gadd 0 := by
    rw [HS.out, List.take_of_length_le (by rw [List.length_map, HKL.out]; omega)]
   have hp : (p : Int) = EN := by
    have h1 := HC.out
    rw [List.drop_of_length_le (by rw [HKL.out]; omega)] at h1
    simp only [Chain] at h1
    rw [HEN.out, h1]
    exact Int.toNat_of_nonneg HBE.out
   rw [hp] at hG
   subst hcells hkK
   obtain ⟨L, hL⟩ : ∃ L, L = (kidsOf ts i).map r := ⟨_, rfl⟩
   rw [← hL] at hG hS HRR
   have hLg : ∀ y ∈ L, IsGas y := by
    rw [hL]
    intro y hy
    obtain ⟨j2, hj2, rfl⟩ := List.mem_map.1 hy
    exact (HR.out j2 hj2).2
   have hSg : IsGas S := by rw [hS]; exact foldl_gas _ _ zero_gas hLg
   have hLK := hG.len
   obtain ⟨C0, C2, CX, CS, CW⟩ := hG.cells_
   have HLG := Lh hLg
   have HSG := Lh hSg
   have HSS := Lh hS
   have HLL := Lh hL
   have HLK := Lh hLK
   have G0 := Lh hG
   clear hLg hSg hS hL hLK hG hp HC HT HS
   have hres : R = gadd S (costsF effectsM x.n c) := by
    rw [HRR.out]
    have hop := HOP.out
    unfold gasF
    simp [hop, HSS.out]
   have HRES := Lh hres
   clear hres
   obtain ⟨cg, hcg⟩ : ∃ t, t = costsF effectsM x.n c := ⟨_, rfl⟩
   have CG : Hid (IsGas cg) := Lh (by rw [hcg]; have h1 := costsF_pos effectsM x.n (c := c) (by omega); have h2 := costsF_le effectsM x.n (c := c) (by omega); unfold IsGas maxB; omega)
   have HCG := Lh hcg
   clear hcg
   have hrx := G0.out.bs.lt
   go_wp2_with fail
   go_region_held3 (fun w' => w'.cell? ⟨w.heap.size, 2, none⟩ = some (.int .i64 x.n) ∧ w'.cell? ⟨wb, 2, none⟩ = some (.int .i64 c)) (first | exact ⟨C2, CW⟩ | exact C55 | exact C88 | go_keep) ((first | (go_at_call 59; refine (effects_st _).mono ?_; rintro e w5 ⟨rfl, hsg, hbl⟩; have G5 := Lh (G0.out.drew.other (gb_below hbl none) (fun g e => by cases e)); have C55 : w5.cell? ⟨w.heap.size, 2, none⟩ = some (.int .i64 x.n) ∧ w5.cell? ⟨wb, 2, none⟩ = some (.int .i64 c) := ⟨G5.out.cells_.2.1, G5.out.cells_.2.2.2.2⟩; have HSGN := Lh hsg; clear hsg hbl) | (go_at_call 57; refine (costs_any _ _ effectsM 9 9 x.n c s _ rfl (by omega) HSGN.out HSIG.out hc0 hc1).mono ?_; rintro e w6 ⟨rfl, rfl⟩; rw [← HCG.out]) | (go_at_call 46; refine (add_any (w.heap.size + 1 + 1 + 1) w5.heap.size 0 1 1 S [cg] _ rfl (by omega) (G5.out.alloc (.cells #[.int .i64 cg] 86)).bs (gvals_blk (l := [cg]) (Blk.new w5 86 #[.int .i64 cg])) (by have h1 := G5.out.bs.lt; omega) (by simp) HSG.out (by intro y hy; simp at hy; subst hy; exact CG.out)).mono ?_; rintro e w8 ⟨rfl, hb8, hg8⟩; have G8 := Lh ((G5.out.alloc (.cells #[.int .i64 cg] 86)).sum hb8 hg8); have C88 : w8.cell? ⟨w.heap.size, 2, none⟩ = some (.int .i64 x.n) ∧ w8.cell? ⟨wb, 2, none⟩ = some (.int .i64 c) := ⟨G8.out.cells_.2.1, G8.out.cells_.2.2.2.2⟩; have CS8 := G8.out.cells_.2.2.2.1; clear hb8 hg8)))
   all_goals go_wp2_with fail
   all_goals go_ret
   all_goals exact ⟨by rw [HRES.out, ← HCG.out]; rfl, G8.out.bw, G8.out.gr⟩
end Go.Proofs.Ytggibiodeecljaa
