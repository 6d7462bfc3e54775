/- emit's table: plain. emit's table (printed by gen_emit9.py). -/
import Derived.Test.YtggibiodeecljaaMEmit3
import Derived.IntWalk
namespace Go.Proofs.Ytggibiodeecljaa
open Go.RowKit
set_option linter.unusedVariables false

def plainV (g : Nat) : Value := .agg #[.func (.func 131) #[] #[.pointer (some ⟨g, 0, none⟩)]]
set_option maxRecDepth 100000 in
set_option maxHeartbeats 1600000 in
theorem tab6_any (mk tbx : Nat) (f : Int → Option Value) (op c : Int) (w : World) (hm : MK key8 w mk f) (kt : Blk w tbx 136 #[.map (some mk)]) :
    Calls Try.prog 130 #[.int .i8 op, .int .u8 c, .pointer (some ⟨tbx, 0, none⟩)] w fun e w' => e = .returned (.tuple #[]) ∧ Blk w' w.heap.size 5 #[.int .u8 c] ∧ MK key8 w' mk (upd key8 f op (some (plainV w.heap.size))) ∧ w.grownBy w' (some mk) ∧ w.heap.size < w'.heap.size := by
  have ct : w.cell? ⟨tbx, 0, none⟩ = some (.map (some mk)) := kt.cell 0
  have hlt := hm.lt key8
  have htl := kt.lt
  obtain ⟨w1, hw1⟩ : ∃ w1, w1 = w.alloc (.cells #[.int .u8 c] 5) := ⟨_, rfl⟩
  have m1 : MK key8 w1 mk f := by rw [hw1]; exact hm.alloc key8 _
  have k1 : Blk w1 w.heap.size 5 #[.int .u8 c] := by rw [hw1]; exact Blk.new w _ _
  have ct1 : w1.cell? ⟨tbx, 0, none⟩ = some (.map (some mk)) := by rw [hw1]; exact (kt.alloc _).cell 0
  obtain ⟨w2, hup, m2, g2⟩ := m1.update key8 Try.underlying136 op (plainV w.heap.size)
  have hup2 : (Instr.mapUpdate 136 (.map (some mk)) (.int .i8 op) (.agg #[.func (.func 131) #[] #[.pointer (some ⟨w.heap.size, 0, none⟩)]])).run Try.prog w1 = .ok () w2 := hup
  have hz : w1.heap.size = w.heap.size + 1 := by rw [hw1]; simp
  have k2 := k1.grown g2 (by intro e; injection e with e; omega)
  have g02 : w.grownBy w2 (some mk) := by
    refine ⟨?_, ?_, ?_, by have := g2.size; omega, fun k hk hne => ?_⟩
    · rw [g2.os, hw1]; rfl
    · rw [g2.tape, hw1]; rfl
    · rw [g2.output, hw1]; rfl
    · rw [g2.block k (by omega) hne, hw1]
      exact Below.heap_alloc w _ k hk
  have hz2 := g2.size
  have HW := Lib.hid hw1
  have K2 := Lib.hid k2
  have M2 := Lib.hid m2
  have G2 := Lib.hid g02
  rw [hw1] at hup2 ct1
  clear hm kt hw1 m1 k1 hup m2 g2 k2 g02
  go_enter Try.func130, Try.ntmps130
  go_wp2_with fail
  go_end0
  exact ⟨rfl, K2.out, M2.out, G2.out, by omega⟩
end Go.Proofs.Ytggibiodeecljaa
namespace Go.Proofs.Ytggibiodeecljaa
open Go.RowKit
set_option linter.unusedVariables false

theorem upd8 (f : Int → Option Value) (x y : Int) (v : Option Value) : upd key8 f x v y = if y = x then v else f y := by
  unfold upd
  have : key8.eqb y x = decide (y = x) := by show (y == x) = _; rw [Bool.eq_iff_iff]; simp
  rw [this]
  by_cases h : y = x <;> simp [h]
/-- The table so far: what is written of the kinds without a captured byte, what has been laid with one. -/
structure TabI (w : World) (mk tbx : Nat) (f : Int → Option Value) (done : List (Int × Int)) : Prop where
  map : MK key8 w mk f
  box : Blk w tbx 136 #[.map (some mk)]
  st : ∀ op K, staticF op = some K → op ≠ 11 → op ≠ 12 → f op = some (.agg #[.func (.func K) #[] #[]])
  pl : ∀ p ∈ done, ∃ g, g < w.heap.size ∧ f p.1 = some (plainV g) ∧ Blk w g 5 #[.int .u8 p.2]
theorem map_ne {w : World} {mk g : Nat} {f : Int → Option Value} {t : TypeId} {cs : Array Value} (h : MK key8 w mk f) (k : Blk w g t cs) : g ≠ mk := by
  rintro rfl
  obtain ⟨es, clock, l, hb, _⟩ := h
  have hk : w.heap[g]? = some (.cells cs t (0, 0)) := k
  rw [hk] at hb
  injection hb with hb
  cases hb
theorem TabI.step {w w' : World} {mk tbx : Nat} {f : Int → Option Value} {done : List (Int × Int)} {op c : Int} (h : TabI w mk tbx f done) (hs : staticF op = none ∨ op = 11 ∨ op = 12) (hd : ∀ p ∈ done, p.1 ≠ op) (m : MK key8 w' mk (upd key8 f op (some (plainV w.heap.size)))) (k : Blk w' w.heap.size 5 #[.int .u8 c]) (g : w.grownBy w' (some mk)) (hz : w.heap.size < w'.heap.size) :
    TabI w' mk tbx (upd key8 f op (some (plainV w.heap.size))) ((op, c) :: done) := by
  refine ⟨m, h.box.grown g (by intro e; injection e with e; exact map_ne h.map h.box e), fun o K hK h1 h2 => ?_, fun p hp => ?_⟩
  · rw [upd8, if_neg]
    · exact h.st o K hK h1 h2
    · rintro rfl
      rcases hs with hs | hs | hs
      · rw [hs] at hK; cases hK
      · exact h1 hs
      · exact h2 hs
  · rcases List.mem_cons.1 hp with rfl | hp
    · exact ⟨_, hz, by rw [upd8, if_pos rfl], k⟩
    · obtain ⟨q, h1, h2, h3⟩ := h.pl p hp
      exact ⟨q, by omega, by rw [upd8, if_neg (hd p hp)]; exact h2, h3.grown g (by intro e; injection e with e; exact map_ne h.map h3 e)⟩
theorem tabS_any {w : World} {mk tbx : Nat} {f : Int → Option Value} {done : List (Int × Int)} (op c : Int) (h : TabI w mk tbx f done) (hs : staticF op = none ∨ op = 11 ∨ op = 12) (hd : ∀ p ∈ done, p.1 ≠ op) :
    Calls Try.prog 130 #[.int .i8 op, .int .u8 c, .pointer (some ⟨tbx, 0, none⟩)] w fun e w' => e = .returned (.tuple #[]) ∧ (∃ f', TabI w' mk tbx f' ((op, c) :: done)) ∧ w.grownBy w' (some mk) := by
  refine (tab6_any mk tbx f op c w h.map h.box).mono ?_
  rintro e w' ⟨rfl, h1, h2, h3, h4⟩
  exact ⟨rfl, ⟨_, h.step hs hd h2 h1 h3 h4⟩, h3⟩
def doneL : List (Int × Int) := [(40, 19), (41, 20), (42, 21), (43, 22), (44, 10), (45, 11), (46, 12), (47, 13), (48, 14)]
def doneK (k : Nat) : List (Int × Int) := (doneL.take k).reverse
theorem plain_mem {op c : Int} (h : plainCode op = some c) : (op, c) ∈ ((18, 35) : Int × Int) :: ((17, 34) : Int × Int) :: ((32, 3) : Int × Int) :: ((31, 2) : Int × Int) :: ((35, 15) : Int × Int) :: ((34, 23) : Int × Int) :: doneK 9 := by
  have hop : op = 40 ∨ op = 41 ∨ op = 42 ∨ op = 43 ∨ op = 44 ∨ op = 45 ∨ op = 46 ∨ op = 47 ∨ op = 48 ∨ op = 34 ∨ op = 35 ∨ op = 31 ∨ op = 32 ∨ op = 17 ∨ op = 18 := by
    by_cases hn : op = 40 ∨ op = 41 ∨ op = 42 ∨ op = 43 ∨ op = 44 ∨ op = 45 ∨ op = 46 ∨ op = 47 ∨ op = 48 ∨ op = 34 ∨ op = 35 ∨ op = 31 ∨ op = 32 ∨ op = 17 ∨ op = 18
    · exact hn
    · exfalso
      unfold plainCode at h
      rw [if_neg (by omega), if_neg (by omega), if_neg (by omega), if_neg (by omega), if_neg (by omega), if_neg (by omega), if_neg (by omega), if_neg (by omega), if_neg (by omega), if_neg (by omega), if_neg (by omega), if_neg (by omega), if_neg (by omega), if_neg (by omega), if_neg (by omega)] at h
      cases h
  rcases hop with rfl | rfl | rfl | rfl | rfl | rfl | rfl | rfl | rfl | rfl | rfl | rfl | rfl | rfl | rfl <;> (injection h with h; subst h; decide)
/-- The literal's table. -/
noncomputable def tabF : Int → Option Value :=
  upd key8 (upd key8 (upd key8 (upd key8 (upd key8 (upd key8 (upd key8 (upd key8 (upd key8 (upd key8 (upd key8 (upd key8 (upd key8 (upd key8 ((fun _ => none)) 10 (some (.agg #[.func (.func 116) #[] #[]]))) 30 (some (.agg #[.func (.func 118) #[] #[]]))) 33 (some (.agg #[.func (.func 120) #[] #[]]))) 36 (some (.agg #[.func (.func 121) #[] #[]]))) 37 (some (.agg #[.func (.func 122) #[] #[]]))) 38 (some (.agg #[.func (.func 123) #[] #[]]))) 39 (some (.agg #[.func (.func 123) #[] #[]]))) 50 (some (.agg #[.func (.func 124) #[] #[]]))) 13 (some (.agg #[.func (.func 125) #[] #[]]))) 16 (some (.agg #[.func (.func 125) #[] #[]]))) 14 (some (.agg #[.func (.func 126) #[] #[]]))) 15 (some (.agg #[.func (.func 127) #[] #[]]))) 49 (some (.agg #[.func (.func 128) #[] #[]]))) 19 (some (.agg #[.func (.func 129) #[] #[]]))
theorem tabF_st (op : Int) (K : FuncId) (h : staticF op = some K) (h1 : op ≠ 11) (h2 : op ≠ 12) : tabF op = some (.agg #[.func (.func K) #[] #[]]) := by
  unfold tabF
  simp only [upd8]
  have hop : op = 10 ∨ op = 30 ∨ op = 33 ∨ op = 36 ∨ op = 37 ∨ op = 38 ∨ op = 39 ∨ op = 50 ∨ op = 13 ∨ op = 16 ∨ op = 14 ∨ op = 15 ∨ op = 49 ∨ op = 19 := by
    by_cases hn : op = 10 ∨ op = 30 ∨ op = 33 ∨ op = 36 ∨ op = 37 ∨ op = 38 ∨ op = 39 ∨ op = 50 ∨ op = 13 ∨ op = 16 ∨ op = 14 ∨ op = 15 ∨ op = 49 ∨ op = 19
    · exact hn
    · exfalso
      unfold staticF at h
      rw [if_neg (by omega), if_neg (by omega), if_neg (by omega), if_neg (by omega), if_neg (by omega), if_neg (by omega), if_neg (by omega), if_neg (by omega), if_neg (by omega), if_neg (by omega), if_neg (by omega), if_neg (by omega), if_neg (by omega), if_neg (by omega), if_neg (by omega), if_neg (by omega)] at h
      cases h
  rcases hop with rfl | rfl | rfl | rfl | rfl | rfl | rfl | rfl | rfl | rfl | rfl | rfl | rfl | rfl <;> (injection h with h; subst h; rfl)

set_option maxRecDepth 100000 in
set_option maxHeartbeats 4000000 in
theorem table_any (w : World) : Calls Try.prog 81 #[] w fun e w' => ∃ mb, e = .returned mb ∧ TabAt w' w'.heap.size mb ∧ Below w.heap.size w w' := by
  have hmm := @run_makeMap Try.prog
  have m0 := MK.made key8 w
  have hB0 : Below w.heap.size w (w.alloc (.map #[] 0)) := (Below.refl _ _).alloc (Nat.le_refl _) _
  generalize hw0 : w.alloc (.map #[] 0) = w0 at m0 hB0
  have hs0 : w.heap.size ≤ w0.heap.size := hB0.size
  obtain ⟨w1, r1, m1, g1⟩ := m0.update key8 Try.underlying136 (10 : Int) (.agg #[.func (.func 116) #[] #[]])
  have hB1 := hB0.grown g1 hB0.size (fun k hk => by injection hk with hk; omega)
  clear hB0 g1 m0
  obtain ⟨w2, r2, m2, g2⟩ := m1.update key8 Try.underlying136 (30 : Int) (.agg #[.func (.func 118) #[] #[]])
  have hB2 := hB1.grown g2 hB1.size (fun k hk => by injection hk with hk; omega)
  clear hB1 g2 m1
  obtain ⟨w3, r3, m3, g3⟩ := m2.update key8 Try.underlying136 (33 : Int) (.agg #[.func (.func 120) #[] #[]])
  have hB3 := hB2.grown g3 hB2.size (fun k hk => by injection hk with hk; omega)
  clear hB2 g3 m2
  obtain ⟨w4, r4, m4, g4⟩ := m3.update key8 Try.underlying136 (36 : Int) (.agg #[.func (.func 121) #[] #[]])
  have hB4 := hB3.grown g4 hB3.size (fun k hk => by injection hk with hk; omega)
  clear hB3 g4 m3
  obtain ⟨w5, r5, m5, g5⟩ := m4.update key8 Try.underlying136 (37 : Int) (.agg #[.func (.func 122) #[] #[]])
  have hB5 := hB4.grown g5 hB4.size (fun k hk => by injection hk with hk; omega)
  clear hB4 g5 m4
  obtain ⟨w6, r6, m6, g6⟩ := m5.update key8 Try.underlying136 (38 : Int) (.agg #[.func (.func 123) #[] #[]])
  have hB6 := hB5.grown g6 hB5.size (fun k hk => by injection hk with hk; omega)
  clear hB5 g6 m5
  obtain ⟨w7, r7, m7, g7⟩ := m6.update key8 Try.underlying136 (39 : Int) (.agg #[.func (.func 123) #[] #[]])
  have hB7 := hB6.grown g7 hB6.size (fun k hk => by injection hk with hk; omega)
  clear hB6 g7 m6
  obtain ⟨w8, r8, m8, g8⟩ := m7.update key8 Try.underlying136 (50 : Int) (.agg #[.func (.func 124) #[] #[]])
  have hB8 := hB7.grown g8 hB7.size (fun k hk => by injection hk with hk; omega)
  clear hB7 g8 m7
  obtain ⟨w9, r9, m9, g9⟩ := m8.update key8 Try.underlying136 (13 : Int) (.agg #[.func (.func 125) #[] #[]])
  have hB9 := hB8.grown g9 hB8.size (fun k hk => by injection hk with hk; omega)
  clear hB8 g9 m8
  obtain ⟨w10, r10, m10, g10⟩ := m9.update key8 Try.underlying136 (16 : Int) (.agg #[.func (.func 125) #[] #[]])
  have hB10 := hB9.grown g10 hB9.size (fun k hk => by injection hk with hk; omega)
  clear hB9 g10 m9
  obtain ⟨w11, r11, m11, g11⟩ := m10.update key8 Try.underlying136 (14 : Int) (.agg #[.func (.func 126) #[] #[]])
  have hB11 := hB10.grown g11 hB10.size (fun k hk => by injection hk with hk; omega)
  clear hB10 g11 m10
  obtain ⟨w12, r12, m12, g12⟩ := m11.update key8 Try.underlying136 (15 : Int) (.agg #[.func (.func 127) #[] #[]])
  have hB12 := hB11.grown g12 hB11.size (fun k hk => by injection hk with hk; omega)
  clear hB11 g12 m11
  obtain ⟨w13, r13, m13, g13⟩ := m12.update key8 Try.underlying136 (49 : Int) (.agg #[.func (.func 128) #[] #[]])
  have hB13 := hB12.grown g13 hB12.size (fun k hk => by injection hk with hk; omega)
  clear hB12 g13 m12
  obtain ⟨w14, r14, m14, g14⟩ := m13.update key8 Try.underlying136 (19 : Int) (.agg #[.func (.func 129) #[] #[]])
  have hB14 := hB13.grown g14 hB13.size (fun k hk => by injection hk with hk; omega)
  clear hB13 g14 m13
  have hlm := m14.lt key8
  obtain ⟨wb, hwb⟩ : ∃ wb, wb = w14.alloc (.cells #[.map (some w.heap.size)] 136) := ⟨_, rfl⟩
  have ti : TabI wb w.heap.size w14.heap.size tabF [] := by
    rw [hwb]
    exact ⟨m14.alloc key8 _, Blk.new _ _ _, tabF_st, fun p hp => by simp at hp⟩
  have bb : Below w.heap.size w wb := by rw [hwb]; exact hB14.alloc hB14.size _
  have TI0 := Lib.hid ti
  have BB0 := Lib.hid bb
  have HWB := Lib.hid hwb
  have hzb : wb.heap.size = w14.heap.size + 1 := by rw [hwb]; simp
  clear m14 hB14 hs0 ti bb
  subst hw0
  have s1 : (Instr.mapUpdate 136 (.map (some w.heap.size)) (.int .i8 10) (.agg #[.func (.func 116) #[] #[]])).run Try.prog (w.alloc (.map #[] 0)) = .ok () w1 := r1
  have s2 : (Instr.mapUpdate 136 (.map (some w.heap.size)) (.int .i8 30) (.agg #[.func (.func 118) #[] #[]])).run Try.prog w1 = .ok () w2 := r2
  have s3 : (Instr.mapUpdate 136 (.map (some w.heap.size)) (.int .i8 33) (.agg #[.func (.func 120) #[] #[]])).run Try.prog w2 = .ok () w3 := r3
  have s4 : (Instr.mapUpdate 136 (.map (some w.heap.size)) (.int .i8 36) (.agg #[.func (.func 121) #[] #[]])).run Try.prog w3 = .ok () w4 := r4
  have s5 : (Instr.mapUpdate 136 (.map (some w.heap.size)) (.int .i8 37) (.agg #[.func (.func 122) #[] #[]])).run Try.prog w4 = .ok () w5 := r5
  have s6 : (Instr.mapUpdate 136 (.map (some w.heap.size)) (.int .i8 38) (.agg #[.func (.func 123) #[] #[]])).run Try.prog w5 = .ok () w6 := r6
  have s7 : (Instr.mapUpdate 136 (.map (some w.heap.size)) (.int .i8 39) (.agg #[.func (.func 123) #[] #[]])).run Try.prog w6 = .ok () w7 := r7
  have s8 : (Instr.mapUpdate 136 (.map (some w.heap.size)) (.int .i8 50) (.agg #[.func (.func 124) #[] #[]])).run Try.prog w7 = .ok () w8 := r8
  have s9 : (Instr.mapUpdate 136 (.map (some w.heap.size)) (.int .i8 13) (.agg #[.func (.func 125) #[] #[]])).run Try.prog w8 = .ok () w9 := r9
  have s10 : (Instr.mapUpdate 136 (.map (some w.heap.size)) (.int .i8 16) (.agg #[.func (.func 125) #[] #[]])).run Try.prog w9 = .ok () w10 := r10
  have s11 : (Instr.mapUpdate 136 (.map (some w.heap.size)) (.int .i8 14) (.agg #[.func (.func 126) #[] #[]])).run Try.prog w10 = .ok () w11 := r11
  have s12 : (Instr.mapUpdate 136 (.map (some w.heap.size)) (.int .i8 15) (.agg #[.func (.func 127) #[] #[]])).run Try.prog w11 = .ok () w12 := r12
  have s13 : (Instr.mapUpdate 136 (.map (some w.heap.size)) (.int .i8 49) (.agg #[.func (.func 128) #[] #[]])).run Try.prog w12 = .ok () w13 := r13
  have s14 : (Instr.mapUpdate 136 (.map (some w.heap.size)) (.int .i8 19) (.agg #[.func (.func 129) #[] #[]])).run Try.prog w13 = .ok () w14 := r14
  clear r1 r2 r3 r4 r5 r6 r7 r8 r9 r10 r11 r12 r13 r14
  have lb := Blk.new wb 5 #[.int .u8 19, .int .u8 20, .int .u8 21, .int .u8 22, .int .u8 10, .int .u8 11, .int .u8 12, .int .u8 13, .int .u8 14]
  have ti1 : TabI (wb.alloc (.cells #[.int .u8 19, .int .u8 20, .int .u8 21, .int .u8 22, .int .u8 10, .int .u8 11, .int .u8 12, .int .u8 13, .int .u8 14] 5)) w.heap.size w14.heap.size tabF [] := ⟨TI0.out.map.alloc key8 _, TI0.out.box.alloc _, TI0.out.st, fun p hp => by simp at hp⟩
  have bb1 : Below w.heap.size w (wb.alloc (.cells #[.int .u8 19, .int .u8 20, .int .u8 21, .int .u8 22, .int .u8 10, .int .u8 11, .int .u8 12, .int .u8 13, .int .u8 14] 5)) := BB0.out.alloc BB0.out.size _
  have LB := Lib.hid lb
  have TI1 := Lib.hid ti1
  have BB1 := Lib.hid bb1
  clear lb ti1 bb1
  clear hwb
  go_enter Try.func81, Try.ntmps81
  go_wp2_with fail
  rw [← HWB.out]
  have hzw := TI0.out.box.lt
  go_loopw [3, 4, 25] (fun _ _ iv wr => ∃ (k : Nat) (f : Int → Option Value), k ≤ 9 ∧ iv = .int .i64 k ∧ TabI wr w.heap.size w14.heap.size f (doneK k) ∧ Below w.heap.size w wr ∧ Blk wr wb.heap.size 5 #[.int .u8 19, .int .u8 20, .int .u8 21, .int .u8 22, .int .u8 10, .int .u8 11, .int .u8 12, .int .u8 13, .int .u8 14]) (fun _ _ iv _ => 9 - (intOf iv).toNat)
  case atStart => exact ⟨0, tabF, by omega, rfl, TI1.out, BB1.out, LB.out⟩
  case round =>
    obtain ⟨k, f, hk9, rfl, hti, hbel, hlb⟩ := hrel
    have hk : k = 0 ∨ k = 1 ∨ k = 2 ∨ k = 3 ∨ k = 4 ∨ k = 5 ∨ k = 6 ∨ k = 7 ∨ k = 8 ∨ k = 9 := by omega
    have hne := map_ne hti.map hlb
    rcases hk with rfl | rfl | rfl | rfl | rfl | rfl | rfl | rfl | rfl | rfl
    · have hc : wr.cell? ⟨wb.heap.size, 0, none⟩ = some (.int .u8 19) := hlb.cell 0
      rw [hzb] at hc
      have hcall := tabS_any 40 19 hti (.inl rfl) (by decide)
      have HC := Lib.hid hcall
      have HLB := Lib.hid hlb
      have HBE := Lib.hid hbel
      clear hcall hti hlb hbel
      go_wp2_with fail
      refine HC.out.mono ?_
      rintro e w2 ⟨rfl, ⟨f2, hti2⟩, hg2⟩
      have HT2 := Lib.hid hti2
      have HL2 := Lib.hid (HLB.out.grown hg2 (by intro e; injection e with e; exact hne e))
      have HB2 := Lib.hid (HBE.out.grown hg2 HBE.out.size (fun q hq => by injection hq with hq; omega))
      clear hti2 hg2
      go_wp2_with fail
      go_roundw
      case rel => exact ⟨1, f2, by omega, rfl, HT2.out, HB2.out, HL2.out⟩
      case measure => (simp [intOf]; try omega)
    · have hc : wr.cell? ⟨wb.heap.size, 1, none⟩ = some (.int .u8 20) := hlb.cell 1
      rw [hzb] at hc
      have hcall := tabS_any 41 20 hti (.inl rfl) (by decide)
      have HC := Lib.hid hcall
      have HLB := Lib.hid hlb
      have HBE := Lib.hid hbel
      clear hcall hti hlb hbel
      go_wp2_with fail
      refine HC.out.mono ?_
      rintro e w2 ⟨rfl, ⟨f2, hti2⟩, hg2⟩
      have HT2 := Lib.hid hti2
      have HL2 := Lib.hid (HLB.out.grown hg2 (by intro e; injection e with e; exact hne e))
      have HB2 := Lib.hid (HBE.out.grown hg2 HBE.out.size (fun q hq => by injection hq with hq; omega))
      clear hti2 hg2
      go_wp2_with fail
      go_roundw
      case rel => exact ⟨2, f2, by omega, rfl, HT2.out, HB2.out, HL2.out⟩
      case measure => (simp [intOf]; try omega)
    · have hc : wr.cell? ⟨wb.heap.size, 2, none⟩ = some (.int .u8 21) := hlb.cell 2
      rw [hzb] at hc
      have hcall := tabS_any 42 21 hti (.inl rfl) (by decide)
      have HC := Lib.hid hcall
      have HLB := Lib.hid hlb
      have HBE := Lib.hid hbel
      clear hcall hti hlb hbel
      go_wp2_with fail
      refine HC.out.mono ?_
      rintro e w2 ⟨rfl, ⟨f2, hti2⟩, hg2⟩
      have HT2 := Lib.hid hti2
      have HL2 := Lib.hid (HLB.out.grown hg2 (by intro e; injection e with e; exact hne e))
      have HB2 := Lib.hid (HBE.out.grown hg2 HBE.out.size (fun q hq => by injection hq with hq; omega))
      clear hti2 hg2
      go_wp2_with fail
      go_roundw
      case rel => exact ⟨3, f2, by omega, rfl, HT2.out, HB2.out, HL2.out⟩
      case measure => (simp [intOf]; try omega)
    · have hc : wr.cell? ⟨wb.heap.size, 3, none⟩ = some (.int .u8 22) := hlb.cell 3
      rw [hzb] at hc
      have hcall := tabS_any 43 22 hti (.inl rfl) (by decide)
      have HC := Lib.hid hcall
      have HLB := Lib.hid hlb
      have HBE := Lib.hid hbel
      clear hcall hti hlb hbel
      go_wp2_with fail
      refine HC.out.mono ?_
      rintro e w2 ⟨rfl, ⟨f2, hti2⟩, hg2⟩
      have HT2 := Lib.hid hti2
      have HL2 := Lib.hid (HLB.out.grown hg2 (by intro e; injection e with e; exact hne e))
      have HB2 := Lib.hid (HBE.out.grown hg2 HBE.out.size (fun q hq => by injection hq with hq; omega))
      clear hti2 hg2
      go_wp2_with fail
      go_roundw
      case rel => exact ⟨4, f2, by omega, rfl, HT2.out, HB2.out, HL2.out⟩
      case measure => (simp [intOf]; try omega)
    · have hc : wr.cell? ⟨wb.heap.size, 4, none⟩ = some (.int .u8 10) := hlb.cell 4
      rw [hzb] at hc
      have hcall := tabS_any 44 10 hti (.inl rfl) (by decide)
      have HC := Lib.hid hcall
      have HLB := Lib.hid hlb
      have HBE := Lib.hid hbel
      clear hcall hti hlb hbel
      go_wp2_with fail
      refine HC.out.mono ?_
      rintro e w2 ⟨rfl, ⟨f2, hti2⟩, hg2⟩
      have HT2 := Lib.hid hti2
      have HL2 := Lib.hid (HLB.out.grown hg2 (by intro e; injection e with e; exact hne e))
      have HB2 := Lib.hid (HBE.out.grown hg2 HBE.out.size (fun q hq => by injection hq with hq; omega))
      clear hti2 hg2
      go_wp2_with fail
      go_roundw
      case rel => exact ⟨5, f2, by omega, rfl, HT2.out, HB2.out, HL2.out⟩
      case measure => (simp [intOf]; try omega)
    · have hc : wr.cell? ⟨wb.heap.size, 5, none⟩ = some (.int .u8 11) := hlb.cell 5
      rw [hzb] at hc
      have hcall := tabS_any 45 11 hti (.inl rfl) (by decide)
      have HC := Lib.hid hcall
      have HLB := Lib.hid hlb
      have HBE := Lib.hid hbel
      clear hcall hti hlb hbel
      go_wp2_with fail
      refine HC.out.mono ?_
      rintro e w2 ⟨rfl, ⟨f2, hti2⟩, hg2⟩
      have HT2 := Lib.hid hti2
      have HL2 := Lib.hid (HLB.out.grown hg2 (by intro e; injection e with e; exact hne e))
      have HB2 := Lib.hid (HBE.out.grown hg2 HBE.out.size (fun q hq => by injection hq with hq; omega))
      clear hti2 hg2
      go_wp2_with fail
      go_roundw
      case rel => exact ⟨6, f2, by omega, rfl, HT2.out, HB2.out, HL2.out⟩
      case measure => (simp [intOf]; try omega)
    · have hc : wr.cell? ⟨wb.heap.size, 6, none⟩ = some (.int .u8 12) := hlb.cell 6
      rw [hzb] at hc
      have hcall := tabS_any 46 12 hti (.inl rfl) (by decide)
      have HC := Lib.hid hcall
      have HLB := Lib.hid hlb
      have HBE := Lib.hid hbel
      clear hcall hti hlb hbel
      go_wp2_with fail
      refine HC.out.mono ?_
      rintro e w2 ⟨rfl, ⟨f2, hti2⟩, hg2⟩
      have HT2 := Lib.hid hti2
      have HL2 := Lib.hid (HLB.out.grown hg2 (by intro e; injection e with e; exact hne e))
      have HB2 := Lib.hid (HBE.out.grown hg2 HBE.out.size (fun q hq => by injection hq with hq; omega))
      clear hti2 hg2
      go_wp2_with fail
      go_roundw
      case rel => exact ⟨7, f2, by omega, rfl, HT2.out, HB2.out, HL2.out⟩
      case measure => (simp [intOf]; try omega)
    · have hc : wr.cell? ⟨wb.heap.size, 7, none⟩ = some (.int .u8 13) := hlb.cell 7
      rw [hzb] at hc
      have hcall := tabS_any 47 13 hti (.inl rfl) (by decide)
      have HC := Lib.hid hcall
      have HLB := Lib.hid hlb
      have HBE := Lib.hid hbel
      clear hcall hti hlb hbel
      go_wp2_with fail
      refine HC.out.mono ?_
      rintro e w2 ⟨rfl, ⟨f2, hti2⟩, hg2⟩
      have HT2 := Lib.hid hti2
      have HL2 := Lib.hid (HLB.out.grown hg2 (by intro e; injection e with e; exact hne e))
      have HB2 := Lib.hid (HBE.out.grown hg2 HBE.out.size (fun q hq => by injection hq with hq; omega))
      clear hti2 hg2
      go_wp2_with fail
      go_roundw
      case rel => exact ⟨8, f2, by omega, rfl, HT2.out, HB2.out, HL2.out⟩
      case measure => (simp [intOf]; try omega)
    · have hc : wr.cell? ⟨wb.heap.size, 8, none⟩ = some (.int .u8 14) := hlb.cell 8
      rw [hzb] at hc
      have hcall := tabS_any 48 14 hti (.inl rfl) (by decide)
      have HC := Lib.hid hcall
      have HLB := Lib.hid hlb
      have HBE := Lib.hid hbel
      clear hcall hti hlb hbel
      go_wp2_with fail
      refine HC.out.mono ?_
      rintro e w2 ⟨rfl, ⟨f2, hti2⟩, hg2⟩
      have HT2 := Lib.hid hti2
      have HL2 := Lib.hid (HLB.out.grown hg2 (by intro e; injection e with e; exact hne e))
      have HB2 := Lib.hid (HBE.out.grown hg2 HBE.out.size (fun q hq => by injection hq with hq; omega))
      clear hti2 hg2
      go_wp2_with fail
      go_roundw
      case rel => exact ⟨9, f2, by omega, rfl, HT2.out, HB2.out, HL2.out⟩
      case measure => (simp [intOf]; try omega)
    · have HT0 := Lib.hid hti
      have HB0 := Lib.hid hbel
      clear hti hbel hlb
      go_wp2_with fail
      refine (tabS_any 34 23 HT0.out (.inl rfl) (by decide)).mono ?_
      rintro e v1 ⟨rfl, ⟨f1, hti⟩, hg⟩
      have HT1 := Lib.hid hti
      have HB1 := Lib.hid (HB0.out.grown hg HB0.out.size (fun q hq => by injection hq with hq; omega))
      clear hti hg
      go_wp2_with fail
      refine (tabS_any 35 15 HT1.out (.inl rfl) (by decide)).mono ?_
      rintro e v2 ⟨rfl, ⟨f2, hti⟩, hg⟩
      have HT2 := Lib.hid hti
      have HB2 := Lib.hid (HB1.out.grown hg HB1.out.size (fun q hq => by injection hq with hq; omega))
      clear hti hg
      go_wp2_with fail
      refine (tabS_any 31 2 HT2.out (.inl rfl) (by decide)).mono ?_
      rintro e v3 ⟨rfl, ⟨f3, hti⟩, hg⟩
      have HT3 := Lib.hid hti
      have HB3 := Lib.hid (HB2.out.grown hg HB2.out.size (fun q hq => by injection hq with hq; omega))
      clear hti hg
      go_wp2_with fail
      refine (tabS_any 32 3 HT3.out (.inl rfl) (by decide)).mono ?_
      rintro e v4 ⟨rfl, ⟨f4, hti⟩, hg⟩
      have HT4 := Lib.hid hti
      have HB4 := Lib.hid (HB3.out.grown hg HB3.out.size (fun q hq => by injection hq with hq; omega))
      clear hti hg
      go_wp2_with fail
      refine (tabS_any 17 34 HT4.out (.inl rfl) (by decide)).mono ?_
      rintro e v5 ⟨rfl, ⟨f5, hti⟩, hg⟩
      have HT5 := Lib.hid hti
      have HB5 := Lib.hid (HB4.out.grown hg HB4.out.size (fun q hq => by injection hq with hq; omega))
      clear hti hg
      go_wp2_with fail
      refine (tabS_any 18 35 HT5.out (.inl rfl) (by decide)).mono ?_
      rintro e v6 ⟨rfl, ⟨f6, hti⟩, hg⟩
      have HT6 := Lib.hid hti
      have HB6 := Lib.hid (HB5.out.grown hg HB5.out.size (fun q hq => by injection hq with hq; omega))
      clear hti hg
      go_wp2_with fail
      have hbx := (HT6.out.box.alloc (.cells #[.func (.func 132) #[] #[]] 185)).drew
      have hst : Blk ((v6.alloc (.cells #[.func (.func 132) #[] #[]] 185)).drew) v6.heap.size 185 #[.func (.func 132) #[] #[]] := (Blk.new v6 _ _).drew
      have mW : MK key8 ((v6.alloc (.cells #[.func (.func 132) #[] #[]] 185)).drew) w.heap.size f6 := (HT6.out.map.alloc key8 _).drew key8
      have nb := map_ne mW hbx
      have ns := map_ne mW hst
      obtain ⟨w15, q15, m15, g15⟩ := mW.update key8 Try.underlying136 11 (.agg #[.func (.func 132) #[] #[]])
      obtain ⟨w16, q16, m16, g16⟩ := m15.update key8 Try.underlying136 12 (.agg #[.func (.func 132) #[] #[]])
      have q15' : (Instr.mapUpdate 136 (.map (some w.heap.size)) (.int .i8 11) (.agg #[.func (.func 132) #[] #[]])).run Try.prog ((v6.alloc (.cells #[.func (.func 132) #[] #[]] 185)).drew) = .ok () w15 := q15
      have q16' : (Instr.mapUpdate 136 (.map (some w.heap.size)) (.int .i8 12) (.agg #[.func (.func 132) #[] #[]])).run Try.prog w15 = .ok () w16 := q16
      have bx15 := hbx.grown g15 (by intro e; injection e with e; exact nb e)
      have bx16 := bx15.grown g16 (by intro e; injection e with e; exact nb e)
      have st15 := hst.grown g15 (by intro e; injection e with e; exact ns e)
      have st16 := st15.grown g16 (by intro e; injection e with e; exact ns e)
      have sA : ((v6.alloc (.cells #[.func (.func 132) #[] #[]] 185)).drew).cell? ⟨w14.heap.size, 0, none⟩ = some (.map (some w.heap.size)) ∧ ((v6.alloc (.cells #[.func (.func 132) #[] #[]] 185)).drew).cell? ⟨v6.heap.size, 0, none⟩ = some (.func (.func 132) #[] #[]) := ⟨hbx.cell 0, hst.cell 0⟩
      have sB : w15.cell? ⟨w14.heap.size, 0, none⟩ = some (.map (some w.heap.size)) ∧ w15.cell? ⟨v6.heap.size, 0, none⟩ = some (.func (.func 132) #[] #[]) := ⟨bx15.cell 0, st15.cell 0⟩
      have sC : w16.cell? ⟨w14.heap.size, 0, none⟩ = some (.map (some w.heap.size)) ∧ w16.cell? ⟨v6.heap.size, 0, none⟩ = some (.func (.func 132) #[] #[]) := ⟨bx16.cell 0, st16.cell 0⟩
      have c16 : w16.cell? ⟨w14.heap.size, 0, none⟩ = some (.map (some w.heap.size)) := bx16.cell 0
      have fin : TabAt w16 w16.heap.size (.map (some w.heap.size)) := by
        refine ⟨_, _, rfl, m16.lt key8, m16, fun o K hK => ?_, fun o c hc => ?_⟩
        · rw [upd8, upd8]
          by_cases q2 : o = 12
          · rw [if_pos q2]; subst q2; injection hK with hK; subst hK; rfl
          · rw [if_neg q2]
            by_cases q1 : o = 11
            · rw [if_pos q1]; subst q1; injection hK with hK; subst hK; rfl
            · rw [if_neg q1]; exact HT6.out.st o K hK q1 q2
        · obtain ⟨g, hg, he, hk⟩ := HT6.out.pl (o, c) (plain_mem hc)
          have ho : o ≠ 11 ∧ o ≠ 12 := ⟨(by rintro rfl; cases hc), (by rintro rfl; cases hc)⟩
          have hkW : Blk ((v6.alloc (.cells #[.func (.func 132) #[] #[]] 185)).drew) g 5 #[.int .u8 c] := (hk.alloc _).drew
          have ng := map_ne mW hkW
          have hk16 := (hkW.grown g15 (by intro e; injection e with e; exact ng e)).grown g16 (by intro e; injection e with e; exact ng e)
          exact ⟨g, hk16.lt, by rw [upd8, upd8, if_neg ho.2, if_neg ho.1]; exact he, hk16⟩
      have hW : Below w.heap.size w ((v6.alloc (.cells #[.func (.func 132) #[] #[]] 185)).drew) := (HB6.out.alloc HB6.out.size _).drew
      have hB15 := hW.grown g15 hW.size (fun q hq => by injection hq with hq; omega)
      have hB16 := hB15.grown g16 hB15.size (fun q hq => by injection hq with hq; omega)
      have FIN := Lib.hid fin
      have HB16 := Lib.hid hB16
      clear hbx hst mW m15 g15 m16 g16 q15 q16 bx15 bx16 st15 st16 fin hW hB15 hB16
      go_region_held3 (fun w' => w'.cell? ⟨w14.heap.size, 0, none⟩ = some (.map (some w.heap.size)) ∧ w'.cell? ⟨v6.heap.size, 0, none⟩ = some (.func (.func 132) #[] #[])) (first | exact sA | exact sB | exact sC) ((first | fail))
      all_goals go_wp2_with fail
      all_goals go_ret
      all_goals exact ⟨_, rfl, FIN.out, HB16.out⟩
end Go.Proofs.Ytggibiodeecljaa
