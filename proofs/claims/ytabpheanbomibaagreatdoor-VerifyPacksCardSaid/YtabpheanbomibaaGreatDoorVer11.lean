/- verify.Code. -/
import Derived.Test.YtabpheanbomibaaGreatDoorVer10
namespace Go.Proofs.YtabpheanbomibaaGreatDoor
open Go.RowKit
set_option linter.unusedVariables false

/-- Two results and one that lies in a cell of its own. -/
theorem results_ttc {P : Program} {fn : Func} {p q r : Tmp} {ty : TypeId} (h : fn.results = #[.tmp p, .tmp q, .cell r ty]) (tmps : Array Value) (w : World) (g : Nat) (t : TypeId) (cs : Array Value) (fr : Nat × Nat) (d : TypeDesc)
    (hr : tmps.getD r undef = .pointer (some ⟨g, 0, none⟩)) (hg : w.heap[g]? = some (.cells cs t fr))
    (hu : P.underlying ty = some d) (hd : (match d with | .struct _ | .array _ _ => true | _ => false) = true) (hi : (P.info? ty).map (·.size) = some cs.size) :
    (results fn tmps).run P w = .ok (.tuple #[tmps.getD p undef, tmps.getD q undef, .agg cs]) w := by
  have hr' : tmps[r]?.getD undef = .pointer (some ⟨g, 0, none⟩) := by simpa using hr
  simp [results, h, hr', asAddr, run_loadVar_row w g t ty cs fr d hg hu hd hi]
theorem fault_info : (Tryz.prog.info? 32).map (·.size) = some 4 := by kernel_rfl
section
variable (w : World) (BA SA : Option Addr) (b slots : List Int) (bc sc : Nat) (ints texts : Int)
set_option maxRecDepth 100000 in
set_option maxHeartbeats 8000000 in
theorem code_bad (hb : b.length ≤ 281474976710656) (hs : slots.length ≤ 281474976710656) (hS : SmallsAt w SA slots) (hl : limitsV b slots ints texts ≠ 0) :
    Calls Tryz.prog 8 #[.slice BA b.length bc, .slice SA slots.length sc, .int .i64 ints, .int .i64 texts] w fun e w' => e = .returned (.tuple #[.slice none 0 0, .int .i64 0, .agg #[.int .i64 (limitsV b slots ints texts), .int .i64 0, .int .i64 0, .int .i64 0]]) ∧ Below w.heap.size w w' := by
  obtain ⟨R, hR⟩ : ∃ R, limitsV b slots ints texts = R := ⟨_, rfl⟩
  have hlm := fun wx (hx : Below w.heap.size w wx) => limits_any BA SA b slots bc sc ints texts wx hb hs (hS.below hx)
  rw [hR] at hl ⊢
  simp only [hR] at hlm
  have hq : (R != 0) = true := by simpa using hl
  obtain ⟨n, hn⟩ : ∃ n, b.length = n := ⟨_, rfl⟩
  obtain ⟨ns, hns⟩ : ∃ n, slots.length = n := ⟨_, rfl⟩
  rw [hn, hns] at hlm ⊢
  have HL := Lib.hid hlm
  clear hlm hS hR hl hn hns
  go_enter Tryz.func8, Tryz.ntmps8
  go_wp2_with fail
  refine (HL.out _ ((Below.refl _ _).alloc (Nat.le_refl _) _)).mono ?_
  rintro e w1 ⟨rfl, rfl⟩
  go_wp2_with fail
  refine bodyPost_ret (results_ttc rfl _ _ w.heap.size 32 #[.int .i64 R, .int .i64 0, .int .i64 0, .int .i64 0] (0, 0) _ rfl (Blk.new w _ _) Tryz.underlying32 rfl fault_info) rfl ⟨rfl, (Below.refl _ _).alloc (Nat.le_refl _) _⟩
end
end Go.Proofs.YtabpheanbomibaaGreatDoor
