/- odds.One, odds.Many on a runner that nobody made. -/
import Derived.Test.YtocekmgjhdlkgaaGreatDoorWel2
namespace Go.Proofs.YtocekmgjhdlkgaaGreatDoor
open Go.RowKit
set_option linter.unusedVariables false

theorem stF (a : Addr) (m : Mode) (x : Nat) (w : World) : (store a (.float .f64 x) m).run Tryz.prog w = stored Tryz.prog w a (.float .f64 x) m := run_store _ w a _ m rfl
theorem results_c {P : Program} {fn : Func} {r : Tmp} {ty : TypeId} (h : fn.results = #[.cell r ty]) (tmps : Array Value) (w : World) (g : Nat) (t : TypeId) (cs : Array Value) (fr : Nat × Nat) (d : TypeDesc)
    (hr : tmps.getD r undef = .pointer (some ⟨g, 0, none⟩)) (hg : w.heap[g]? = some (.cells cs t fr))
    (hu : P.underlying ty = some d) (hd : (match d with | .struct _ | .array _ _ => true | _ => false) = true) (hi : (P.info? ty).map (·.size) = some cs.size) :
    (results fn tmps).run P w = .ok (.agg cs) w := by
  have hr' : tmps[r]?.getD undef = .pointer (some ⟨g, 0, none⟩) := by simpa using hr
  simp [results, h, hr', asAddr, run_loadVar_row w g t ty cs fr d hg hu hd hi]
set_option maxRecDepth 100000 in
set_option maxHeartbeats 4000000 in
theorem pack_nil (w : World) : Calls Tryz.prog 23 #[.pointer none] w fun e w' => e = .returned (.agg #[.int .i64 0, .slice none 0 0, .slice none 0 0, .slice none 0 0]) ∧ w.alloc (.cells #[.int .i64 0, .slice none 0 0, .slice none 0 0, .slice none 0 0] 60) = w' := by
  go_enter Tryz.func23, Tryz.ntmps23
  go_wp2_with fail
  exact bodyPost_ret (results_c rfl _ _ w.heap.size 60 #[.int .i64 0, .slice none 0 0, .slice none 0 0, .slice none 0 0] (0, 0) _ rfl (Blk.new w _ _) Tryz.underlying60 rfl (by kernel_rfl)) rfl ⟨rfl, rfl⟩
set_option maxRecDepth 100000 in
theorem none_nil (w : World) : Calls Tryz.prog 20 #[.pointer none] w fun e w' => e = .returned (.bool true) ∧ w.alloc (.cells #[.int .i64 0, .slice none 0 0, .slice none 0 0, .slice none 0 0] 60) = w' := by
  have hfl : ∀ w : World, (Instr.field 60 (.agg #[.int .i64 0, .slice none 0 0, .slice none 0 0, .slice none 0 0]) 0).run Tryz.prog w = .ok (.int .i64 0) w := fun w => by kernel_rfl
  go_enter Tryz.func20, Tryz.ntmps20
  go_wp2_with fail
  refine (pack_nil _).mono ?_
  rintro e w1 ⟨rfl, rfl⟩
  go_wp2_with fail
  go_ret
  exact ⟨rfl, rfl⟩
theorem same_any (a b : Nat) (o : Option Nat) (w : World) (ha : Rep a o) (hb : Rep b o) : Calls Tryz.prog 9 #[.float .f64 a, .float .f64 b] w fun e w' => e = .returned (.bool true) ∧ w = w' := by
  have h := rep_same ha hb
  obtain ⟨q1, h1⟩ : ∃ q, (dbl.order a b == some .eq) = q := ⟨_, rfl⟩
  obtain ⟨q2, h2⟩ : ∃ q, (dbl.order a a != some .eq) = q := ⟨_, rfl⟩
  obtain ⟨q3, h3⟩ : ∃ q, (dbl.order b b != some .eq) = q := ⟨_, rfl⟩
  rw [h1, h2, h3] at h
  have HH := Lib.hid h
  clear h ha hb
  cases q1 with
  | true =>
    go_enter Tryz.func9, Tryz.ntmps9
    go_wp2_with fail
    go_ret
    exact ⟨rfl, rfl⟩
  | false =>
    have h := HH.out
    simp only [Bool.false_or, Bool.and_eq_true] at h
    obtain ⟨rfl, rfl⟩ := h
    go_enter Tryz.func9, Tryz.ntmps9
    go_wp2_with fail
    go_ret
    exact ⟨rfl, rfl⟩
theorem results_ctt {P : Program} {fn : Func} {r p q : Tmp} {ty : TypeId} (h : fn.results = #[.cell r ty, .tmp p, .tmp q]) (tmps : Array Value) (w : World) (g : Nat) (t : TypeId) (cs : Array Value) (fr : Nat × Nat) (d : TypeDesc)
    (hr : tmps.getD r undef = .pointer (some ⟨g, 0, none⟩)) (hg : w.heap[g]? = some (.cells cs t fr))
    (hu : P.underlying ty = some d) (hd : (match d with | .struct _ | .array _ _ => true | _ => false) = true) (hi : (P.info? ty).map (·.size) = some cs.size) :
    (results fn tmps).run P w = .ok (.tuple #[.agg cs, tmps.getD p undef, tmps.getD q undef]) w := by
  have hr' : tmps[r]?.getD undef = .pointer (some ⟨g, 0, none⟩) := by simpa using hr
  simp [results, h, hr', asAddr, run_loadVar_row w g t ty cs fr d hg hu hd hi]
theorem results_ct {P : Program} {fn : Func} {r p : Tmp} {ty : TypeId} (h : fn.results = #[.cell r ty, .tmp p]) (tmps : Array Value) (w : World) (g : Nat) (t : TypeId) (cs : Array Value) (fr : Nat × Nat) (d : TypeDesc)
    (hr : tmps.getD r undef = .pointer (some ⟨g, 0, none⟩)) (hg : w.heap[g]? = some (.cells cs t fr))
    (hu : P.underlying ty = some d) (hd : (match d with | .struct _ | .array _ _ => true | _ => false) = true) (hi : (P.info? ty).map (·.size) = some cs.size) :
    (results fn tmps).run P w = .ok (.tuple #[.agg cs, tmps.getD p undef]) w := by
  have hr' : tmps[r]?.getD undef = .pointer (some ⟨g, 0, none⟩) := by simpa using hr
  simp [results, h, hr', asAddr, run_loadVar_row w g t ty cs fr d hg hu hd hi]
def stateZ : Array Value := #[.slice none 0 0, .slice none 0 0, .slice none 0 0, .int .i32 0, .int .i64 0, .int .i8 0, .int .i64 0]
set_option maxRecDepth 100000 in
set_option maxHeartbeats 4000000 in
theorem one_nil (w : World) : Calls Tryz.prog 17 #[.pointer none, .agg #[.slice none 0 0, .slice none 0 0, .slice none 0 0, .int .i32 0, .int .i64 0, .int .i8 0, .int .i64 0], .int .u64 1, .int .i64 1] w fun e w' => e = .returned (.tuple #[.agg #[.slice none 0 0, .slice none 0 0, .slice none 0 0, .int .i32 0, .int .i64 0, .int .i8 0, .int .i64 0], .int .i64 0, .int .i64 1]) ∧ Below w.heap.size w w' := by
  go_enter Tryz.func17, Tryz.ntmps17
  go_wp2_with fail
  refine (none_nil _).mono ?_
  rintro e w1 ⟨rfl, rfl⟩
  go_wp2_with fail
  have hb := (((Below.refl w.heap.size w).alloc (Nat.le_refl _) (.cells #[.slice none 0 0, .slice none 0 0, .slice none 0 0, .int .i32 0, .int .i64 0, .int .i8 0, .int .i64 0] 40)).alloc (by simp) (.cells #[.slice none 0 0, .slice none 0 0, .slice none 0 0, .int .i32 0, .int .i64 0, .int .i8 0, .int .i64 0] 40)).alloc (by simp; omega) (.cells #[.int .i64 0, .slice none 0 0, .slice none 0 0, .slice none 0 0] 60)
  have hk := (Blk.new (w.alloc (.cells #[.slice none 0 0, .slice none 0 0, .slice none 0 0, .int .i32 0, .int .i64 0, .int .i8 0, .int .i64 0] 40)) 40 #[.slice none 0 0, .slice none 0 0, .slice none 0 0, .int .i32 0, .int .i64 0, .int .i8 0, .int .i64 0]).alloc (.cells #[.int .i64 0, .slice none 0 0, .slice none 0 0, .slice none 0 0] 60)
  rw [World.size_alloc] at hk
  exact bodyPost_ret (results_ctt rfl _ _ (w.heap.size + 1) 40 #[.slice none 0 0, .slice none 0 0, .slice none 0 0, .int .i32 0, .int .i64 0, .int .i8 0, .int .i64 0] (0, 0) _ rfl hk Tryz.underlying40 rfl (by kernel_rfl)) rfl ⟨rfl, hb⟩
set_option maxRecDepth 100000 in
set_option maxHeartbeats 4000000 in
theorem many_nil (w : World) : Calls Tryz.prog 18 #[.pointer none, .agg #[.slice none 0 0, .slice none 0 0, .slice none 0 0, .int .i32 0, .int .i64 0, .int .i8 0, .int .i64 0], .int .u64 1, .int .i64 1, .int .i64 1] w fun e w' => e = .returned (.tuple #[.agg #[.int .i64 0, .int .i64 0, .int .i64 0, .slice none 0 0, .slice none 0 0, .float .f64 0, .float .f64 0], .int .i64 1]) ∧ Below w.heap.size w w' := by
  have hsf := stF
  go_enter Tryz.func18, Tryz.ntmps18
  go_wp2_with fail
  refine (none_nil _).mono ?_
  rintro e w1 ⟨rfl, rfl⟩
  go_wp2_with fail
  have hb := (((Below.refl w.heap.size w).alloc (Nat.le_refl _) (.cells #[.slice none 0 0, .slice none 0 0, .slice none 0 0, .int .i32 0, .int .i64 0, .int .i8 0, .int .i64 0] 40)).alloc (by simp) (.cells #[.int .i64 0, .int .i64 0, .int .i64 0, .slice none 0 0, .slice none 0 0, .float .f64 0, .float .f64 0] 47)).alloc (by simp; omega) (.cells #[.int .i64 0, .slice none 0 0, .slice none 0 0, .slice none 0 0] 60)
  have hk := (Blk.new (w.alloc (.cells #[.slice none 0 0, .slice none 0 0, .slice none 0 0, .int .i32 0, .int .i64 0, .int .i8 0, .int .i64 0] 40)) 47 #[.int .i64 0, .int .i64 0, .int .i64 0, .slice none 0 0, .slice none 0 0, .float .f64 0, .float .f64 0]).alloc (.cells #[.int .i64 0, .slice none 0 0, .slice none 0 0, .slice none 0 0] 60)
  rw [World.size_alloc] at hk
  exact bodyPost_ret (results_ct rfl _ _ (w.heap.size + 1) 47 #[.int .i64 0, .int .i64 0, .int .i64 0, .slice none 0 0, .slice none 0 0, .float .f64 0, .float .f64 0] (0, 0) _ rfl hk Tryz.underlying47 rfl (by kernel_rfl)) rfl ⟨rfl, hb⟩
theorem rep_some {b c : Nat} (h : Rep b (some c)) : b = c := by
  rcases h with h | ⟨h, _⟩
  · injection h with h; exact h.symm
  · cases h
theorem rep_none {b : Nat} (h : Rep b none) : (FloatKind.f64.format.order b b != some .eq) = true := by
  rcases h with h | ⟨_, h⟩
  · cases h
  · show (dbl.order b b != some .eq) = true
    rw [h]; rfl
def four : List Nat := [4607182418800017408, 4611686018427387904, 4613937818241073152, 4616189618054758400]
set_option maxRecDepth 100000 in
theorem wel_four : welM four = (some 4612811918334230528, some 4608308318706860032) := by decide
theorem below_drewF {B : Nat} {w w' : World} (h : Below B w w') (n : Nat) : Below B w (w'.drewN n) := ⟨h.os, h.tape, h.output, h.size, h.block⟩
set_option maxRecDepth 100000 in
set_option maxHeartbeats 8000000 in
theorem works29_any (w : World) : Calls Tryz.prog 13 #[] w fun e w' => e = .returned (.bool true) ∧ Below w.heap.size w w' := by
  have hb := Blk.new w 25 (four.map (Value.float .f64)).toArray
  have hF : FloatsAt (w.alloc (.cells (four.map (Value.float .f64)).toArray 25)) (some ⟨w.heap.size, 0, none⟩) four := fun k x hx => ⟨w.heap.size, 0, rfl, hb.lt, by rw [hb.cell]; simp [hx]⟩
  have h1 := welGo_any (some ⟨w.heap.size, 0, none⟩) four 4 4 (w.alloc (.cells (four.map (Value.float .f64)).toArray 25)) rfl (by decide) hF
  rw [wel_four] at h1
  have h2 := fun w => welGo_any none [] 0 0 w rfl (by decide) (fun k x hx => by simp at hx)
  simp only [four, List.map_cons, List.map_nil] at h1
  have H1 := Lib.hid h1
  have H2 := Lib.hid h2
  have hb0 := (Below.refl w.heap.size w).alloc (Nat.le_refl _) (.cells #[.float .f64 4607182418800017408, .float .f64 4611686018427387904, .float .f64 4613937818241073152, .float .f64 4616189618054758400] 25)
  have HB0 := Lib.hid hb0
  clear h1 h2 hb hF hb0
  have hsf := stF
  go_enter Tryz.func13, Tryz.ntmps13
  go_wp2_with fail
  refine H1.out.mono ?_
  rintro e w1 ⟨m, s, rfl, hm, hs, k, hw⟩
  obtain rfl := rep_some hm
  obtain rfl := rep_some hs
  have hb1 : Below w.heap.size w w1 := by rw [hw]; exact below_drewF HB0.out k
  have HB1 := Lib.hid hb1
  clear hm hs hw hb1
  go_wp2_with fail
  refine (H2.out _).mono ?_
  rintro e w2 ⟨m2, s2, rfl, hm, hs, k, hw⟩
  have n1 := rep_none hm
  have n2 := rep_none hs
  have hb2 : Below w.heap.size w w2 := by rw [hw]; exact below_drewF HB1.out k
  have HB2 := Lib.hid hb2
  clear hm hs hw hb2
  go_wp2_with fail
  refine (one_nil _).mono ?_
  rintro e w3 ⟨rfl, hb⟩
  have HB3 := Lib.hid (HB2.out.trans (hb.mono HB2.out.size))
  clear hb
  go_wp2_with fail
  refine (many_nil _).mono ?_
  rintro e w4 ⟨rfl, hb⟩
  have HB4 := Lib.hid ((HB3.out.alloc HB3.out.size _).trans (hb.mono (Nat.le_trans HB3.out.size (by simp))))
  clear hb
  have t1 : (FloatKind.f64.format.order 4612811918334230528 4612811918334230528 == some .eq) = true := by decide
  have t2 : (FloatKind.f64.format.order 4608308318706860032 4608308318706860032 == some .eq) = true := by decide
  go_wp2_with fail
  go_ret
  exact ⟨rfl, HB4.out.alloc HB4.out.size _⟩
end Go.Proofs.YtocekmgjhdlkgaaGreatDoor
