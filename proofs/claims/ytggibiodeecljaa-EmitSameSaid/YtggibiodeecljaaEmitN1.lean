/- emit's maker: a node (printed by gen_emitn.py). -/
import Derived.Test.YtggibiodeecljaaMEmit3
namespace Go.Proofs.Ytggibiodeecljaa
open Go.RowKit
set_option linter.unusedVariables false
set_option maxRecDepth 100000 in
set_option maxHeartbeats 3200000 in
theorem emitNode_t1 (w0 : World) (B kb tb toff cap : Nat) (im tm mb : Value) (ts : List Node) (F : MS → MS) (i : Nat) (x : Node) (s : MS) (w : World) (hl : ts.length ≤ 2000) (htb : tb < B) (hn0 : NodesAt w0 tb toff ts) (ht0 : TabAt w0 B mb) (hi : i < ts.length) (hbe : 0 ≤ behind ts i) (hx : ts[i]? = some x)
    (hK : staticF x.op = some 116) (hW : WriterC w0 B kb (.slice (some ⟨tb, toff, none⟩) ts.length cap) im tm mb ts F i x 116 #[]) (hb : Below B w0 w) (h : EK w B kb (.slice (some ⟨tb, toff, none⟩) ts.length cap) im tm mb s) (hm : (F s).ms ≤ 1000000) :
    Calls Try.prog 82 #[.pointer (some ⟨kb, 0, none⟩), .int .i64 i] w fun e w' => e = .returned (.tuple #[]) ∧ EK w' B kb (.slice (some ⟨tb, toff, none⟩) ts.length cap) im tm mb (F s) ∧ Frm B TE w w' := by
  obtain ⟨hB, hks⟩ := h.size
  have hlk := fun (wx : World) (hx : Below B w0 wx) => (ht0.below hx).lookS hK
  have hnx := fun (wx : World) (hx : Below B w0 wx) => hn0.below hx htb
  obtain ⟨d0, d1, d2, d4, d5, z4⟩ := h.cells
  obtain ⟨c0, c1, c2, c3, c4, c5, c6⟩ := (hnx w hb).all hx
  have hba : Below w.heap.size w (w.alloc (.cells #[.int .i8 x.op, .int .i8 x.kind, .int .i64 x.n, .int .i64 x.m, .string x.text, .int .i64 x.pos, .int .i64 x.kids] 42)) := (Below.refl _ _).alloc (Nat.le_refl _) _
  have kn := Blk.new w 42 #[.int .i8 x.op, .int .i8 x.kind, .int .i64 x.n, .int .i64 x.m, .string x.text, .int .i64 x.pos, .int .i64 x.kids]
  have h1 := h.below hba
  have hb1 : Below B w0 (w.alloc (.cells #[.int .i8 x.op, .int .i8 x.kind, .int .i64 x.n, .int .i64 x.m, .string x.text, .int .i64 x.pos, .int .i64 x.kids] 42)) := hb.trans (hba.mono (by omega))
  obtain ⟨w1, hw1⟩ : ∃ w1, w1 = w.alloc (.cells #[.int .i8 x.op, .int .i8 x.kind, .int .i64 x.n, .int .i64 x.m, .string x.text, .int .i64 x.pos, .int .i64 x.kids] 42) := ⟨_, rfl⟩
  have HW1 := Lib.hid hw1
  rw [← hw1] at hba kn h1 hb1
  have hiI : (i : Int) < ts.length := by omega
  have hkw := kn.lt
  obtain ⟨e0, e1, e2, e4, e5, y4⟩ := h1.cells
  have f0 := kn.cell 0
  have f1 := kn.cell 1
  have f2 := kn.cell 2
  have f3 := kn.cell 3
  have f4 := kn.cell 4
  have f5 := kn.cell 5
  have f6 := kn.cell 6
  have hki := kids_any tb toff cap ts i w1.drew (by omega) (hnx w1 hb1) (by show tb < w1.heap.size; omega) hi
  have hl1 := hlk w1 hb1
  have HKI := Lib.hid hki
  have HWC := Lib.hid hW
  have H1 := Lib.hid h1
  have HB1 := Lib.hid hb1
  have HBA := Lib.hid hba
  have KN := Lib.hid kn
  have HLK := Lib.hid hlk
  clear hw1 h1 hb1 hba kn hki hW hlk hnx h hb hn0 ht0 hx hK hbe
  go_enter Try.func82, Try.ntmps82
  go_wp2_with fail
  rw [← HW1.out]
  have hfl := field_writer (.func (.func 116) #[] #[])
  have hs1 := emitNode_S (w' := w1.drew) H1.out.drew KN.out.drew (HLK.out w1.drew HB1.out.drew)
  go_region_held3 (fun w' => w'.cell? ⟨kb, 0, none⟩ = some (.slice (some ⟨tb, toff, none⟩) ts.length cap) ∧ w'.cell? ⟨kb, 5, none⟩ = some mb ∧ w'.cell? ⟨w.heap.size, 0, none⟩ = some (.int .i8 x.op) ∧ w'.cell? ⟨w.heap.size, 1, none⟩ = some (.int .i8 x.kind) ∧ w'.cell? ⟨w.heap.size, 2, none⟩ = some (.int .i64 x.n) ∧ w'.cell? ⟨w.heap.size, 3, none⟩ = some (.int .i64 x.m) ∧ w'.cell? ⟨w.heap.size, 4, none⟩ = some (.string x.text) ∧ w'.cell? ⟨w.heap.size, 5, none⟩ = some (.int .i64 x.pos) ∧ w'.cell? ⟨w.heap.size, 6, none⟩ = some (.int .i64 x.kids) ∧ (Instr.lookup 136 mb (.int .i8 x.op) false).run Try.prog w' = .ok (.agg #[.func (.func 116) #[] #[]]) w')
    (first | exact hs1 | exact hs3 | exact hs2) ((first | (go_at_call 114; refine HKI.out.mono ?_; rintro e w2 ⟨kv, rfl, hown, hbel⟩; obtain ⟨A, c, rfl⟩ := own_form hown; have h2 := (H1.out.drew).below hbel; have kn2 := (KN.out.drew).below hbel hkw; have hb2 : Below B w0 w2 := HB1.out.drew.trans (hbel.mono (by show B ≤ w1.heap.size; omega)); have hs2 := emitNode_S h2 kn2 (HLK.out w2 hb2)) | (go_at_call 116; refine (HWC.out s w2 A (kidsOf ts i).length c w1.drew.heap.size hb2 h2 (intVals_map ▸ hown) hm).mono ?_; rintro e w3 ⟨rfl, h3, f3⟩; have hs3 := emitNode_S h3 (f3.blk kn2 (by decide)) (HLK.out w3 (hb2.trans f3.below)))))
  all_goals go_wp2_with fail
  all_goals go_end0
  all_goals exact ⟨rfl, h3, ((Frm.of_below HBA.out.drew (by omega)).trans (Frm.of_below hbel (by show B ≤ w1.heap.size; omega))).trans f3⟩
set_option maxRecDepth 100000 in
set_option maxHeartbeats 3200000 in
theorem emitNode_t2 (w0 : World) (B kb tb toff cap : Nat) (im tm mb : Value) (ts : List Node) (F : MS → MS) (i : Nat) (x : Node) (s : MS) (w : World) (hl : ts.length ≤ 2000) (htb : tb < B) (hn0 : NodesAt w0 tb toff ts) (ht0 : TabAt w0 B mb) (hi : i < ts.length) (hbe : 0 ≤ behind ts i) (hx : ts[i]? = some x)
    (hK : staticF x.op = some 118) (hW : WriterC w0 B kb (.slice (some ⟨tb, toff, none⟩) ts.length cap) im tm mb ts F i x 118 #[]) (hb : Below B w0 w) (h : EK w B kb (.slice (some ⟨tb, toff, none⟩) ts.length cap) im tm mb s) (hm : (F s).ms ≤ 1000000) :
    Calls Try.prog 82 #[.pointer (some ⟨kb, 0, none⟩), .int .i64 i] w fun e w' => e = .returned (.tuple #[]) ∧ EK w' B kb (.slice (some ⟨tb, toff, none⟩) ts.length cap) im tm mb (F s) ∧ Frm B TE w w' := by
  obtain ⟨hB, hks⟩ := h.size
  have hlk := fun (wx : World) (hx : Below B w0 wx) => (ht0.below hx).lookS hK
  have hnx := fun (wx : World) (hx : Below B w0 wx) => hn0.below hx htb
  obtain ⟨d0, d1, d2, d4, d5, z4⟩ := h.cells
  obtain ⟨c0, c1, c2, c3, c4, c5, c6⟩ := (hnx w hb).all hx
  have hba : Below w.heap.size w (w.alloc (.cells #[.int .i8 x.op, .int .i8 x.kind, .int .i64 x.n, .int .i64 x.m, .string x.text, .int .i64 x.pos, .int .i64 x.kids] 42)) := (Below.refl _ _).alloc (Nat.le_refl _) _
  have kn := Blk.new w 42 #[.int .i8 x.op, .int .i8 x.kind, .int .i64 x.n, .int .i64 x.m, .string x.text, .int .i64 x.pos, .int .i64 x.kids]
  have h1 := h.below hba
  have hb1 : Below B w0 (w.alloc (.cells #[.int .i8 x.op, .int .i8 x.kind, .int .i64 x.n, .int .i64 x.m, .string x.text, .int .i64 x.pos, .int .i64 x.kids] 42)) := hb.trans (hba.mono (by omega))
  obtain ⟨w1, hw1⟩ : ∃ w1, w1 = w.alloc (.cells #[.int .i8 x.op, .int .i8 x.kind, .int .i64 x.n, .int .i64 x.m, .string x.text, .int .i64 x.pos, .int .i64 x.kids] 42) := ⟨_, rfl⟩
  have HW1 := Lib.hid hw1
  rw [← hw1] at hba kn h1 hb1
  have hiI : (i : Int) < ts.length := by omega
  have hkw := kn.lt
  obtain ⟨e0, e1, e2, e4, e5, y4⟩ := h1.cells
  have f0 := kn.cell 0
  have f1 := kn.cell 1
  have f2 := kn.cell 2
  have f3 := kn.cell 3
  have f4 := kn.cell 4
  have f5 := kn.cell 5
  have f6 := kn.cell 6
  have hki := kids_any tb toff cap ts i w1.drew (by omega) (hnx w1 hb1) (by show tb < w1.heap.size; omega) hi
  have hl1 := hlk w1 hb1
  have HKI := Lib.hid hki
  have HWC := Lib.hid hW
  have H1 := Lib.hid h1
  have HB1 := Lib.hid hb1
  have HBA := Lib.hid hba
  have KN := Lib.hid kn
  have HLK := Lib.hid hlk
  clear hw1 h1 hb1 hba kn hki hW hlk hnx h hb hn0 ht0 hx hK hbe
  go_enter Try.func82, Try.ntmps82
  go_wp2_with fail
  rw [← HW1.out]
  have hfl := field_writer (.func (.func 118) #[] #[])
  have hs1 := emitNode_S (w' := w1.drew) H1.out.drew KN.out.drew (HLK.out w1.drew HB1.out.drew)
  go_region_held3 (fun w' => w'.cell? ⟨kb, 0, none⟩ = some (.slice (some ⟨tb, toff, none⟩) ts.length cap) ∧ w'.cell? ⟨kb, 5, none⟩ = some mb ∧ w'.cell? ⟨w.heap.size, 0, none⟩ = some (.int .i8 x.op) ∧ w'.cell? ⟨w.heap.size, 1, none⟩ = some (.int .i8 x.kind) ∧ w'.cell? ⟨w.heap.size, 2, none⟩ = some (.int .i64 x.n) ∧ w'.cell? ⟨w.heap.size, 3, none⟩ = some (.int .i64 x.m) ∧ w'.cell? ⟨w.heap.size, 4, none⟩ = some (.string x.text) ∧ w'.cell? ⟨w.heap.size, 5, none⟩ = some (.int .i64 x.pos) ∧ w'.cell? ⟨w.heap.size, 6, none⟩ = some (.int .i64 x.kids) ∧ (Instr.lookup 136 mb (.int .i8 x.op) false).run Try.prog w' = .ok (.agg #[.func (.func 118) #[] #[]]) w')
    (first | exact hs1 | exact hs3 | exact hs2) ((first | (go_at_call 114; refine HKI.out.mono ?_; rintro e w2 ⟨kv, rfl, hown, hbel⟩; obtain ⟨A, c, rfl⟩ := own_form hown; have h2 := (H1.out.drew).below hbel; have kn2 := (KN.out.drew).below hbel hkw; have hb2 : Below B w0 w2 := HB1.out.drew.trans (hbel.mono (by show B ≤ w1.heap.size; omega)); have hs2 := emitNode_S h2 kn2 (HLK.out w2 hb2)) | (go_at_call 118; refine (HWC.out s w2 A (kidsOf ts i).length c w1.drew.heap.size hb2 h2 (intVals_map ▸ hown) hm).mono ?_; rintro e w3 ⟨rfl, h3, f3⟩; have hs3 := emitNode_S h3 (f3.blk kn2 (by decide)) (HLK.out w3 (hb2.trans f3.below)))))
  all_goals go_wp2_with fail
  all_goals go_end0
  all_goals exact ⟨rfl, h3, ((Frm.of_below HBA.out.drew (by omega)).trans (Frm.of_below hbel (by show B ≤ w1.heap.size; omega))).trans f3⟩
set_option maxRecDepth 100000 in
set_option maxHeartbeats 3200000 in
theorem emitNode_t3 (w0 : World) (B kb tb toff cap : Nat) (im tm mb : Value) (ts : List Node) (F : MS → MS) (i : Nat) (x : Node) (s : MS) (w : World) (hl : ts.length ≤ 2000) (htb : tb < B) (hn0 : NodesAt w0 tb toff ts) (ht0 : TabAt w0 B mb) (hi : i < ts.length) (hbe : 0 ≤ behind ts i) (hx : ts[i]? = some x)
    (hK : staticF x.op = some 120) (hW : WriterC w0 B kb (.slice (some ⟨tb, toff, none⟩) ts.length cap) im tm mb ts F i x 120 #[]) (hb : Below B w0 w) (h : EK w B kb (.slice (some ⟨tb, toff, none⟩) ts.length cap) im tm mb s) (hm : (F s).ms ≤ 1000000) :
    Calls Try.prog 82 #[.pointer (some ⟨kb, 0, none⟩), .int .i64 i] w fun e w' => e = .returned (.tuple #[]) ∧ EK w' B kb (.slice (some ⟨tb, toff, none⟩) ts.length cap) im tm mb (F s) ∧ Frm B TE w w' := by
  obtain ⟨hB, hks⟩ := h.size
  have hlk := fun (wx : World) (hx : Below B w0 wx) => (ht0.below hx).lookS hK
  have hnx := fun (wx : World) (hx : Below B w0 wx) => hn0.below hx htb
  obtain ⟨d0, d1, d2, d4, d5, z4⟩ := h.cells
  obtain ⟨c0, c1, c2, c3, c4, c5, c6⟩ := (hnx w hb).all hx
  have hba : Below w.heap.size w (w.alloc (.cells #[.int .i8 x.op, .int .i8 x.kind, .int .i64 x.n, .int .i64 x.m, .string x.text, .int .i64 x.pos, .int .i64 x.kids] 42)) := (Below.refl _ _).alloc (Nat.le_refl _) _
  have kn := Blk.new w 42 #[.int .i8 x.op, .int .i8 x.kind, .int .i64 x.n, .int .i64 x.m, .string x.text, .int .i64 x.pos, .int .i64 x.kids]
  have h1 := h.below hba
  have hb1 : Below B w0 (w.alloc (.cells #[.int .i8 x.op, .int .i8 x.kind, .int .i64 x.n, .int .i64 x.m, .string x.text, .int .i64 x.pos, .int .i64 x.kids] 42)) := hb.trans (hba.mono (by omega))
  obtain ⟨w1, hw1⟩ : ∃ w1, w1 = w.alloc (.cells #[.int .i8 x.op, .int .i8 x.kind, .int .i64 x.n, .int .i64 x.m, .string x.text, .int .i64 x.pos, .int .i64 x.kids] 42) := ⟨_, rfl⟩
  have HW1 := Lib.hid hw1
  rw [← hw1] at hba kn h1 hb1
  have hiI : (i : Int) < ts.length := by omega
  have hkw := kn.lt
  obtain ⟨e0, e1, e2, e4, e5, y4⟩ := h1.cells
  have f0 := kn.cell 0
  have f1 := kn.cell 1
  have f2 := kn.cell 2
  have f3 := kn.cell 3
  have f4 := kn.cell 4
  have f5 := kn.cell 5
  have f6 := kn.cell 6
  have hki := kids_any tb toff cap ts i w1.drew (by omega) (hnx w1 hb1) (by show tb < w1.heap.size; omega) hi
  have hl1 := hlk w1 hb1
  have HKI := Lib.hid hki
  have HWC := Lib.hid hW
  have H1 := Lib.hid h1
  have HB1 := Lib.hid hb1
  have HBA := Lib.hid hba
  have KN := Lib.hid kn
  have HLK := Lib.hid hlk
  clear hw1 h1 hb1 hba kn hki hW hlk hnx h hb hn0 ht0 hx hK hbe
  go_enter Try.func82, Try.ntmps82
  go_wp2_with fail
  rw [← HW1.out]
  have hfl := field_writer (.func (.func 120) #[] #[])
  have hs1 := emitNode_S (w' := w1.drew) H1.out.drew KN.out.drew (HLK.out w1.drew HB1.out.drew)
  go_region_held3 (fun w' => w'.cell? ⟨kb, 0, none⟩ = some (.slice (some ⟨tb, toff, none⟩) ts.length cap) ∧ w'.cell? ⟨kb, 5, none⟩ = some mb ∧ w'.cell? ⟨w.heap.size, 0, none⟩ = some (.int .i8 x.op) ∧ w'.cell? ⟨w.heap.size, 1, none⟩ = some (.int .i8 x.kind) ∧ w'.cell? ⟨w.heap.size, 2, none⟩ = some (.int .i64 x.n) ∧ w'.cell? ⟨w.heap.size, 3, none⟩ = some (.int .i64 x.m) ∧ w'.cell? ⟨w.heap.size, 4, none⟩ = some (.string x.text) ∧ w'.cell? ⟨w.heap.size, 5, none⟩ = some (.int .i64 x.pos) ∧ w'.cell? ⟨w.heap.size, 6, none⟩ = some (.int .i64 x.kids) ∧ (Instr.lookup 136 mb (.int .i8 x.op) false).run Try.prog w' = .ok (.agg #[.func (.func 120) #[] #[]]) w')
    (first | exact hs1 | exact hs3 | exact hs2) ((first | (go_at_call 114; refine HKI.out.mono ?_; rintro e w2 ⟨kv, rfl, hown, hbel⟩; obtain ⟨A, c, rfl⟩ := own_form hown; have h2 := (H1.out.drew).below hbel; have kn2 := (KN.out.drew).below hbel hkw; have hb2 : Below B w0 w2 := HB1.out.drew.trans (hbel.mono (by show B ≤ w1.heap.size; omega)); have hs2 := emitNode_S h2 kn2 (HLK.out w2 hb2)) | (go_at_call 120; refine (HWC.out s w2 A (kidsOf ts i).length c w1.drew.heap.size hb2 h2 (intVals_map ▸ hown) hm).mono ?_; rintro e w3 ⟨rfl, h3, f3⟩; have hs3 := emitNode_S h3 (f3.blk kn2 (by decide)) (HLK.out w3 (hb2.trans f3.below)))))
  all_goals go_wp2_with fail
  all_goals go_end0
  all_goals exact ⟨rfl, h3, ((Frm.of_below HBA.out.drew (by omega)).trans (Frm.of_below hbel (by show B ≤ w1.heap.size; omega))).trans f3⟩
end Go.Proofs.Ytggibiodeecljaa
