/- code.forms: the table of the opcodes. Written by gen_code.py. -/
import Derived.Test.YtabpheanbomibaaGreatDoorBits
namespace Go.Proofs.YtabpheanbomibaaGreatDoor
open Go.RowKit

def keyB : KeyT Tryz.prog 5 Int := intKey Tryz.prog 5 .u8 Tryz.underlying5
/-- A form in the table: its name, its operands' kind; nothing that reads yet. -/
def formV (name : ByteArray) (kind : Int) : Value := .agg #[.string name, .int .i64 kind, .nilFunc]
def formsL : List (Int × ByteArray × Int) := [
  (1, ⟨#[112, 117, 115, 104]⟩, 2),
  (2, ⟨#[116, 114, 117, 101]⟩, 0),
  (3, ⟨#[102, 97, 108, 115, 101]⟩, 0),
  (4, ⟨#[108, 111, 97, 100]⟩, 1),
  (5, ⟨#[115, 116, 111, 114, 101]⟩, 1),
  (10, ⟨#[97, 100, 100]⟩, 0),
  (11, ⟨#[115, 117, 98]⟩, 0),
  (12, ⟨#[109, 117, 108]⟩, 0),
  (13, ⟨#[100, 105, 118]⟩, 0),
  (14, ⟨#[114, 101, 109]⟩, 0),
  (15, ⟨#[110, 101, 103]⟩, 0),
  (16, ⟨#[97, 98, 115]⟩, 0),
  (17, ⟨#[109, 105, 110]⟩, 0),
  (18, ⟨#[109, 97, 120]⟩, 0),
  (19, ⟨#[108, 116]⟩, 0),
  (20, ⟨#[108, 101]⟩, 0),
  (21, ⟨#[103, 116]⟩, 0),
  (22, ⟨#[103, 101]⟩, 0),
  (23, ⟨#[110, 111, 116]⟩, 0),
  (24, ⟨#[101, 113]⟩, 1),
  (30, ⟨#[106, 117, 109, 112]⟩, 2),
  (31, ⟨#[117, 110, 108, 101, 115, 115]⟩, 2),
  (32, ⟨#[101, 97, 99, 104]⟩, 3),
  (33, ⟨#[99, 104, 111, 111, 115, 101]⟩, 2),
  (34, ⟨#[115, 116, 111, 112]⟩, 0),
  (35, ⟨#[97, 98, 111, 114, 116]⟩, 0),
  (40, ⟨#[110, 101, 120, 116]⟩, 0),
  (41, ⟨#[122, 111, 110, 101]⟩, 1),
  (42, ⟨#[114, 97, 110, 100, 111, 109]⟩, 0),
  (43, ⟨#[116, 111, 112]⟩, 0),
  (44, ⟨#[104, 97, 115]⟩, 0),
  (45, ⟨#[105, 115]⟩, 2),
  (46, ⟨#[102, 105, 101, 108, 100]⟩, 1),
  (60, ⟨#[100, 111]⟩, 1)]
/-- The table's answer. -/
noncomputable def formsF : Int → Option Value := formsL.foldl (fun f p => upd keyB f p.1 (some (formV p.2.1 p.2.2))) (fun _ => none)

set_option maxRecDepth 100000 in
set_option maxHeartbeats 4000000 in
theorem forms_any (w : World) : Calls Tryz.prog 141 #[] w fun e w' => e = .returned (.map (some w.heap.size)) ∧ MK keyB w' w.heap.size formsF ∧ Below w.heap.size w w' := by
  have hmm := @run_makeMap Tryz.prog
  have m0 := MK.made keyB w
  have hB0 : Below w.heap.size w (w.alloc (.map #[] 0)) := (Below.refl _ _).alloc (Nat.le_refl _) _
  generalize hw0 : w.alloc (.map #[] 0) = w0 at m0 hB0
  have hs0 : w.heap.size ≤ w0.heap.size := hB0.size
  obtain ⟨w1, r1, m1, g1⟩ := m0.update keyB Tryz.underlying237 (1 : Int) (formV ⟨#[112, 117, 115, 104]⟩ 2)
  have hB1 := hB0.grown g1 hB0.size (fun k hk => by injection hk with hk; omega)
  clear hB0 g1 m0
  obtain ⟨w2, r2, m2, g2⟩ := m1.update keyB Tryz.underlying237 (2 : Int) (formV ⟨#[116, 114, 117, 101]⟩ 0)
  have hB2 := hB1.grown g2 hB1.size (fun k hk => by injection hk with hk; omega)
  clear hB1 g2 m1
  obtain ⟨w3, r3, m3, g3⟩ := m2.update keyB Tryz.underlying237 (3 : Int) (formV ⟨#[102, 97, 108, 115, 101]⟩ 0)
  have hB3 := hB2.grown g3 hB2.size (fun k hk => by injection hk with hk; omega)
  clear hB2 g3 m2
  obtain ⟨w4, r4, m4, g4⟩ := m3.update keyB Tryz.underlying237 (4 : Int) (formV ⟨#[108, 111, 97, 100]⟩ 1)
  have hB4 := hB3.grown g4 hB3.size (fun k hk => by injection hk with hk; omega)
  clear hB3 g4 m3
  obtain ⟨w5, r5, m5, g5⟩ := m4.update keyB Tryz.underlying237 (5 : Int) (formV ⟨#[115, 116, 111, 114, 101]⟩ 1)
  have hB5 := hB4.grown g5 hB4.size (fun k hk => by injection hk with hk; omega)
  clear hB4 g5 m4
  obtain ⟨w6, r6, m6, g6⟩ := m5.update keyB Tryz.underlying237 (10 : Int) (formV ⟨#[97, 100, 100]⟩ 0)
  have hB6 := hB5.grown g6 hB5.size (fun k hk => by injection hk with hk; omega)
  clear hB5 g6 m5
  obtain ⟨w7, r7, m7, g7⟩ := m6.update keyB Tryz.underlying237 (11 : Int) (formV ⟨#[115, 117, 98]⟩ 0)
  have hB7 := hB6.grown g7 hB6.size (fun k hk => by injection hk with hk; omega)
  clear hB6 g7 m6
  obtain ⟨w8, r8, m8, g8⟩ := m7.update keyB Tryz.underlying237 (12 : Int) (formV ⟨#[109, 117, 108]⟩ 0)
  have hB8 := hB7.grown g8 hB7.size (fun k hk => by injection hk with hk; omega)
  clear hB7 g8 m7
  obtain ⟨w9, r9, m9, g9⟩ := m8.update keyB Tryz.underlying237 (13 : Int) (formV ⟨#[100, 105, 118]⟩ 0)
  have hB9 := hB8.grown g9 hB8.size (fun k hk => by injection hk with hk; omega)
  clear hB8 g9 m8
  obtain ⟨w10, r10, m10, g10⟩ := m9.update keyB Tryz.underlying237 (14 : Int) (formV ⟨#[114, 101, 109]⟩ 0)
  have hB10 := hB9.grown g10 hB9.size (fun k hk => by injection hk with hk; omega)
  clear hB9 g10 m9
  obtain ⟨w11, r11, m11, g11⟩ := m10.update keyB Tryz.underlying237 (15 : Int) (formV ⟨#[110, 101, 103]⟩ 0)
  have hB11 := hB10.grown g11 hB10.size (fun k hk => by injection hk with hk; omega)
  clear hB10 g11 m10
  obtain ⟨w12, r12, m12, g12⟩ := m11.update keyB Tryz.underlying237 (16 : Int) (formV ⟨#[97, 98, 115]⟩ 0)
  have hB12 := hB11.grown g12 hB11.size (fun k hk => by injection hk with hk; omega)
  clear hB11 g12 m11
  obtain ⟨w13, r13, m13, g13⟩ := m12.update keyB Tryz.underlying237 (17 : Int) (formV ⟨#[109, 105, 110]⟩ 0)
  have hB13 := hB12.grown g13 hB12.size (fun k hk => by injection hk with hk; omega)
  clear hB12 g13 m12
  obtain ⟨w14, r14, m14, g14⟩ := m13.update keyB Tryz.underlying237 (18 : Int) (formV ⟨#[109, 97, 120]⟩ 0)
  have hB14 := hB13.grown g14 hB13.size (fun k hk => by injection hk with hk; omega)
  clear hB13 g14 m13
  obtain ⟨w15, r15, m15, g15⟩ := m14.update keyB Tryz.underlying237 (19 : Int) (formV ⟨#[108, 116]⟩ 0)
  have hB15 := hB14.grown g15 hB14.size (fun k hk => by injection hk with hk; omega)
  clear hB14 g15 m14
  obtain ⟨w16, r16, m16, g16⟩ := m15.update keyB Tryz.underlying237 (20 : Int) (formV ⟨#[108, 101]⟩ 0)
  have hB16 := hB15.grown g16 hB15.size (fun k hk => by injection hk with hk; omega)
  clear hB15 g16 m15
  obtain ⟨w17, r17, m17, g17⟩ := m16.update keyB Tryz.underlying237 (21 : Int) (formV ⟨#[103, 116]⟩ 0)
  have hB17 := hB16.grown g17 hB16.size (fun k hk => by injection hk with hk; omega)
  clear hB16 g17 m16
  obtain ⟨w18, r18, m18, g18⟩ := m17.update keyB Tryz.underlying237 (22 : Int) (formV ⟨#[103, 101]⟩ 0)
  have hB18 := hB17.grown g18 hB17.size (fun k hk => by injection hk with hk; omega)
  clear hB17 g18 m17
  obtain ⟨w19, r19, m19, g19⟩ := m18.update keyB Tryz.underlying237 (23 : Int) (formV ⟨#[110, 111, 116]⟩ 0)
  have hB19 := hB18.grown g19 hB18.size (fun k hk => by injection hk with hk; omega)
  clear hB18 g19 m18
  obtain ⟨w20, r20, m20, g20⟩ := m19.update keyB Tryz.underlying237 (24 : Int) (formV ⟨#[101, 113]⟩ 1)
  have hB20 := hB19.grown g20 hB19.size (fun k hk => by injection hk with hk; omega)
  clear hB19 g20 m19
  obtain ⟨w21, r21, m21, g21⟩ := m20.update keyB Tryz.underlying237 (30 : Int) (formV ⟨#[106, 117, 109, 112]⟩ 2)
  have hB21 := hB20.grown g21 hB20.size (fun k hk => by injection hk with hk; omega)
  clear hB20 g21 m20
  obtain ⟨w22, r22, m22, g22⟩ := m21.update keyB Tryz.underlying237 (31 : Int) (formV ⟨#[117, 110, 108, 101, 115, 115]⟩ 2)
  have hB22 := hB21.grown g22 hB21.size (fun k hk => by injection hk with hk; omega)
  clear hB21 g22 m21
  obtain ⟨w23, r23, m23, g23⟩ := m22.update keyB Tryz.underlying237 (32 : Int) (formV ⟨#[101, 97, 99, 104]⟩ 3)
  have hB23 := hB22.grown g23 hB22.size (fun k hk => by injection hk with hk; omega)
  clear hB22 g23 m22
  obtain ⟨w24, r24, m24, g24⟩ := m23.update keyB Tryz.underlying237 (33 : Int) (formV ⟨#[99, 104, 111, 111, 115, 101]⟩ 2)
  have hB24 := hB23.grown g24 hB23.size (fun k hk => by injection hk with hk; omega)
  clear hB23 g24 m23
  obtain ⟨w25, r25, m25, g25⟩ := m24.update keyB Tryz.underlying237 (34 : Int) (formV ⟨#[115, 116, 111, 112]⟩ 0)
  have hB25 := hB24.grown g25 hB24.size (fun k hk => by injection hk with hk; omega)
  clear hB24 g25 m24
  obtain ⟨w26, r26, m26, g26⟩ := m25.update keyB Tryz.underlying237 (35 : Int) (formV ⟨#[97, 98, 111, 114, 116]⟩ 0)
  have hB26 := hB25.grown g26 hB25.size (fun k hk => by injection hk with hk; omega)
  clear hB25 g26 m25
  obtain ⟨w27, r27, m27, g27⟩ := m26.update keyB Tryz.underlying237 (40 : Int) (formV ⟨#[110, 101, 120, 116]⟩ 0)
  have hB27 := hB26.grown g27 hB26.size (fun k hk => by injection hk with hk; omega)
  clear hB26 g27 m26
  obtain ⟨w28, r28, m28, g28⟩ := m27.update keyB Tryz.underlying237 (41 : Int) (formV ⟨#[122, 111, 110, 101]⟩ 1)
  have hB28 := hB27.grown g28 hB27.size (fun k hk => by injection hk with hk; omega)
  clear hB27 g28 m27
  obtain ⟨w29, r29, m29, g29⟩ := m28.update keyB Tryz.underlying237 (42 : Int) (formV ⟨#[114, 97, 110, 100, 111, 109]⟩ 0)
  have hB29 := hB28.grown g29 hB28.size (fun k hk => by injection hk with hk; omega)
  clear hB28 g29 m28
  obtain ⟨w30, r30, m30, g30⟩ := m29.update keyB Tryz.underlying237 (43 : Int) (formV ⟨#[116, 111, 112]⟩ 0)
  have hB30 := hB29.grown g30 hB29.size (fun k hk => by injection hk with hk; omega)
  clear hB29 g30 m29
  obtain ⟨w31, r31, m31, g31⟩ := m30.update keyB Tryz.underlying237 (44 : Int) (formV ⟨#[104, 97, 115]⟩ 0)
  have hB31 := hB30.grown g31 hB30.size (fun k hk => by injection hk with hk; omega)
  clear hB30 g31 m30
  obtain ⟨w32, r32, m32, g32⟩ := m31.update keyB Tryz.underlying237 (45 : Int) (formV ⟨#[105, 115]⟩ 2)
  have hB32 := hB31.grown g32 hB31.size (fun k hk => by injection hk with hk; omega)
  clear hB31 g32 m31
  obtain ⟨w33, r33, m33, g33⟩ := m32.update keyB Tryz.underlying237 (46 : Int) (formV ⟨#[102, 105, 101, 108, 100]⟩ 1)
  have hB33 := hB32.grown g33 hB32.size (fun k hk => by injection hk with hk; omega)
  clear hB32 g33 m32
  obtain ⟨w34, r34, m34, g34⟩ := m33.update keyB Tryz.underlying237 (60 : Int) (formV ⟨#[100, 111]⟩ 1)
  have hB34 := hB33.grown g34 hB33.size (fun k hk => by injection hk with hk; omega)
  clear hB33 g34 m33
  have M := Lib.hid m34
  have HB := Lib.hid hB34
  clear m34 hB34 hs0
  subst hw0
  have s1 : (Instr.mapUpdate 237 (.map (some w.heap.size)) (.int .u8 1) (.agg #[.string ⟨#[112, 117, 115, 104]⟩, .int .i64 2, .nilFunc])).run Tryz.prog (w.alloc (.map #[] 0)) = .ok () w1 := r1
  have s2 : (Instr.mapUpdate 237 (.map (some w.heap.size)) (.int .u8 2) (.agg #[.string ⟨#[116, 114, 117, 101]⟩, .int .i64 0, .nilFunc])).run Tryz.prog w1 = .ok () w2 := r2
  have s3 : (Instr.mapUpdate 237 (.map (some w.heap.size)) (.int .u8 3) (.agg #[.string ⟨#[102, 97, 108, 115, 101]⟩, .int .i64 0, .nilFunc])).run Tryz.prog w2 = .ok () w3 := r3
  have s4 : (Instr.mapUpdate 237 (.map (some w.heap.size)) (.int .u8 4) (.agg #[.string ⟨#[108, 111, 97, 100]⟩, .int .i64 1, .nilFunc])).run Tryz.prog w3 = .ok () w4 := r4
  have s5 : (Instr.mapUpdate 237 (.map (some w.heap.size)) (.int .u8 5) (.agg #[.string ⟨#[115, 116, 111, 114, 101]⟩, .int .i64 1, .nilFunc])).run Tryz.prog w4 = .ok () w5 := r5
  have s6 : (Instr.mapUpdate 237 (.map (some w.heap.size)) (.int .u8 10) (.agg #[.string ⟨#[97, 100, 100]⟩, .int .i64 0, .nilFunc])).run Tryz.prog w5 = .ok () w6 := r6
  have s7 : (Instr.mapUpdate 237 (.map (some w.heap.size)) (.int .u8 11) (.agg #[.string ⟨#[115, 117, 98]⟩, .int .i64 0, .nilFunc])).run Tryz.prog w6 = .ok () w7 := r7
  have s8 : (Instr.mapUpdate 237 (.map (some w.heap.size)) (.int .u8 12) (.agg #[.string ⟨#[109, 117, 108]⟩, .int .i64 0, .nilFunc])).run Tryz.prog w7 = .ok () w8 := r8
  have s9 : (Instr.mapUpdate 237 (.map (some w.heap.size)) (.int .u8 13) (.agg #[.string ⟨#[100, 105, 118]⟩, .int .i64 0, .nilFunc])).run Tryz.prog w8 = .ok () w9 := r9
  have s10 : (Instr.mapUpdate 237 (.map (some w.heap.size)) (.int .u8 14) (.agg #[.string ⟨#[114, 101, 109]⟩, .int .i64 0, .nilFunc])).run Tryz.prog w9 = .ok () w10 := r10
  have s11 : (Instr.mapUpdate 237 (.map (some w.heap.size)) (.int .u8 15) (.agg #[.string ⟨#[110, 101, 103]⟩, .int .i64 0, .nilFunc])).run Tryz.prog w10 = .ok () w11 := r11
  have s12 : (Instr.mapUpdate 237 (.map (some w.heap.size)) (.int .u8 16) (.agg #[.string ⟨#[97, 98, 115]⟩, .int .i64 0, .nilFunc])).run Tryz.prog w11 = .ok () w12 := r12
  have s13 : (Instr.mapUpdate 237 (.map (some w.heap.size)) (.int .u8 17) (.agg #[.string ⟨#[109, 105, 110]⟩, .int .i64 0, .nilFunc])).run Tryz.prog w12 = .ok () w13 := r13
  have s14 : (Instr.mapUpdate 237 (.map (some w.heap.size)) (.int .u8 18) (.agg #[.string ⟨#[109, 97, 120]⟩, .int .i64 0, .nilFunc])).run Tryz.prog w13 = .ok () w14 := r14
  have s15 : (Instr.mapUpdate 237 (.map (some w.heap.size)) (.int .u8 19) (.agg #[.string ⟨#[108, 116]⟩, .int .i64 0, .nilFunc])).run Tryz.prog w14 = .ok () w15 := r15
  have s16 : (Instr.mapUpdate 237 (.map (some w.heap.size)) (.int .u8 20) (.agg #[.string ⟨#[108, 101]⟩, .int .i64 0, .nilFunc])).run Tryz.prog w15 = .ok () w16 := r16
  have s17 : (Instr.mapUpdate 237 (.map (some w.heap.size)) (.int .u8 21) (.agg #[.string ⟨#[103, 116]⟩, .int .i64 0, .nilFunc])).run Tryz.prog w16 = .ok () w17 := r17
  have s18 : (Instr.mapUpdate 237 (.map (some w.heap.size)) (.int .u8 22) (.agg #[.string ⟨#[103, 101]⟩, .int .i64 0, .nilFunc])).run Tryz.prog w17 = .ok () w18 := r18
  have s19 : (Instr.mapUpdate 237 (.map (some w.heap.size)) (.int .u8 23) (.agg #[.string ⟨#[110, 111, 116]⟩, .int .i64 0, .nilFunc])).run Tryz.prog w18 = .ok () w19 := r19
  have s20 : (Instr.mapUpdate 237 (.map (some w.heap.size)) (.int .u8 24) (.agg #[.string ⟨#[101, 113]⟩, .int .i64 1, .nilFunc])).run Tryz.prog w19 = .ok () w20 := r20
  have s21 : (Instr.mapUpdate 237 (.map (some w.heap.size)) (.int .u8 30) (.agg #[.string ⟨#[106, 117, 109, 112]⟩, .int .i64 2, .nilFunc])).run Tryz.prog w20 = .ok () w21 := r21
  have s22 : (Instr.mapUpdate 237 (.map (some w.heap.size)) (.int .u8 31) (.agg #[.string ⟨#[117, 110, 108, 101, 115, 115]⟩, .int .i64 2, .nilFunc])).run Tryz.prog w21 = .ok () w22 := r22
  have s23 : (Instr.mapUpdate 237 (.map (some w.heap.size)) (.int .u8 32) (.agg #[.string ⟨#[101, 97, 99, 104]⟩, .int .i64 3, .nilFunc])).run Tryz.prog w22 = .ok () w23 := r23
  have s24 : (Instr.mapUpdate 237 (.map (some w.heap.size)) (.int .u8 33) (.agg #[.string ⟨#[99, 104, 111, 111, 115, 101]⟩, .int .i64 2, .nilFunc])).run Tryz.prog w23 = .ok () w24 := r24
  have s25 : (Instr.mapUpdate 237 (.map (some w.heap.size)) (.int .u8 34) (.agg #[.string ⟨#[115, 116, 111, 112]⟩, .int .i64 0, .nilFunc])).run Tryz.prog w24 = .ok () w25 := r25
  have s26 : (Instr.mapUpdate 237 (.map (some w.heap.size)) (.int .u8 35) (.agg #[.string ⟨#[97, 98, 111, 114, 116]⟩, .int .i64 0, .nilFunc])).run Tryz.prog w25 = .ok () w26 := r26
  have s27 : (Instr.mapUpdate 237 (.map (some w.heap.size)) (.int .u8 40) (.agg #[.string ⟨#[110, 101, 120, 116]⟩, .int .i64 0, .nilFunc])).run Tryz.prog w26 = .ok () w27 := r27
  have s28 : (Instr.mapUpdate 237 (.map (some w.heap.size)) (.int .u8 41) (.agg #[.string ⟨#[122, 111, 110, 101]⟩, .int .i64 1, .nilFunc])).run Tryz.prog w27 = .ok () w28 := r28
  have s29 : (Instr.mapUpdate 237 (.map (some w.heap.size)) (.int .u8 42) (.agg #[.string ⟨#[114, 97, 110, 100, 111, 109]⟩, .int .i64 0, .nilFunc])).run Tryz.prog w28 = .ok () w29 := r29
  have s30 : (Instr.mapUpdate 237 (.map (some w.heap.size)) (.int .u8 43) (.agg #[.string ⟨#[116, 111, 112]⟩, .int .i64 0, .nilFunc])).run Tryz.prog w29 = .ok () w30 := r30
  have s31 : (Instr.mapUpdate 237 (.map (some w.heap.size)) (.int .u8 44) (.agg #[.string ⟨#[104, 97, 115]⟩, .int .i64 0, .nilFunc])).run Tryz.prog w30 = .ok () w31 := r31
  have s32 : (Instr.mapUpdate 237 (.map (some w.heap.size)) (.int .u8 45) (.agg #[.string ⟨#[105, 115]⟩, .int .i64 2, .nilFunc])).run Tryz.prog w31 = .ok () w32 := r32
  have s33 : (Instr.mapUpdate 237 (.map (some w.heap.size)) (.int .u8 46) (.agg #[.string ⟨#[102, 105, 101, 108, 100]⟩, .int .i64 1, .nilFunc])).run Tryz.prog w32 = .ok () w33 := r33
  have s34 : (Instr.mapUpdate 237 (.map (some w.heap.size)) (.int .u8 60) (.agg #[.string ⟨#[100, 111]⟩, .int .i64 1, .nilFunc])).run Tryz.prog w33 = .ok () w34 := r34
  clear r1 r2 r3 r4 r5 r6 r7 r8 r9 r10 r11 r12 r13 r14 r15 r16 r17 r18 r19 r20 r21 r22 r23 r24 r25 r26 r27 r28 r29 r30 r31 r32 r33 r34
  go_enter Tryz.func141, Tryz.ntmps141
  go_wp2_with fail
  go_ret
  exact ⟨rfl, M.out, HB.out⟩
end Go.Proofs.YtabpheanbomibaaGreatDoor
