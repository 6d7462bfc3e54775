/- The arguments of a law: an ability, opened as the form reads it. A job, as the form reads it; the tables that the rows list; a world that holds them. The law VerifyCodes holds, for every input (the listed variables tied to the program's text): it returns true and leaves its argument as it was. -/
import Derived.SizedLaws
import Derived.Deep.Slices
import Derived.Lib.SmallJoins
import Derived.OpenShut
import Derived.ChangeSlices
import Derived.Test.YtabpheanbomibaaGreatDoorCards
import Derived.Test.YtabpheanbomibaaGreatDoorTie
import Derived.Test.YtabpheanbomibaaGreatDoorRows
import Derived.WalkKit
import Derived.ProofKit
import Derived.Deep.DeepHandedRow
import Derived.Laws.Cover2
import Derived.JoinedCond
import Derived.ShutString
import Derived.ChangeOld
import Derived.Below
import Derived.Carry
import Derived.Test.YtabpheanbomibaaGreatDoorBits
import Derived.Test.YtabpheanbomibaaGreatDoorCodes20
import Derived.Test.YtabpheanbomibaaGreatDoorRead
import Derived.Test.YtabpheanbomibaaGreatDoorVerE
namespace Go.Proofs.YtabpheanbomibaaGreatDoor
open Go.ChangeShapes Go.WideShapes Go.ChangeAt Go.RowKit Go.Joins Go.Deep
set_option linter.unusedVariables false

theorem cells_i8 : Tryz.prog.cellsOf 82 = 1 := by kernel_rfl
theorem bytes_i8 : Tryz.prog.bytesOf 82 = 1 := by kernel_rfl
theorem cells_node : Tryz.prog.cellsOf 174 = 7 := by kernel_rfl
theorem bytes_node : Tryz.prog.bytesOf 174 = 56 := by kernel_rfl
theorem cells_able : Tryz.prog.cellsOf 183 = 4 := by kernel_rfl
theorem one_able : ∀ fs, Tryz.prog.underlying 183 = some (.struct fs) → oneCellFields Tryz.prog fs = true := by
  intro fs h
  rw [Tryz.underlying183] at h
  injection h with h
  injection h with h
  subst h
  kernel_rfl
theorem cells_i64 : Tryz.prog.cellsOf 2 = 1 := by kernel_rfl
theorem cells_int : Tryz.prog.cellsOf 3 = 1 := by kernel_rfl
theorem cells_str : Tryz.prog.cellsOf 9 = 1 := by kernel_rfl

section
variable {H : Type} {enc : TypeId × Value → H} {W : World} {sp : Nat → Bool} {fuel : Nat} {v : Value} {y : DataW H × List MemPlace}

theorem weightsAll_in {P : Program} {e : TypeId} : ∀ {l : List (DataW H)} {d : DataW H}, d ∈ l → ∀ n ∈ d.weights P e, n ∈ DataW.weightsAll P e l
  | d' :: r, d, hd, n, hn => by
    simp only [DataW.weightsAll, List.mem_append]
    rcases List.mem_cons.1 hd with rfl | h
    · exact Or.inl hn
    · exact Or.inr (weightsAll_in h n hn)

theorem cell_lt {a : Addr} {u : Value} (h : W.cell? a = some u) : a.block < W.heap.size :=
  World.cells?_block (cells?_one (base := 0) (Nat.zero_le _) h) (by decide)

theorem open_smalls (hf : DataW.trod enc Tryz.prog W 0 sp true fuel 23 [v] = some y) (hr : ∀ n ∈ y.1.weights Tryz.prog 23, n ≤ reachBytes) :
    ∃ A l c, v = .slice A (l : List Int).length c ∧ SmallsAt W A l ∧ l.length ≤ reachBytes := by
  rcases open_ints Tryz.underlying23 Tryz.underlying82 cells_i8 hf with ⟨hcs, hx⟩ | ⟨a, len, cap, zs, hcs, hb, hl, hm, hz, hx, hcell, hwz⟩
  · simp only [List.cons.injEq, and_true] at hcs
    subst hcs
    exact ⟨none, [], 0, rfl, fun k x hk => by simp at hk, by simp⟩
  · simp only [List.cons.injEq, and_true] at hcs
    subst hcs
    have hzl : len ≤ zs.length := by rw [hz]; split <;> omega
    have hlen : (zs.take len).length = len := by rw [List.length_take]; omega
    refine ⟨some a, zs.take len, cap, by rw [hlen], ?_, ?_⟩
    · intro k x hk
      rw [List.getElem?_take] at hk
      split at hk
      · rename_i hkl
        obtain ⟨b, off, rfl, hc⟩ := ints_at hcell (by omega)
        have h1 := hc k (by omega)
        rw [List.getD_eq_getElem?_getD, hk] at h1
        exact ⟨b, off, rfl, cell_lt h1, h1⟩
      · cases hk
    · have h1 := hr ((List.take len zs).length * 1 + (zs.drop len).length * 1) (by
        subst hx
        simp [DataW.weights, Tryz.underlying23, bytes_i8, lits])
      omega

end
end Go.Proofs.YtabpheanbomibaaGreatDoor
namespace Go.Proofs.YtabpheanbomibaaGreatDoor
open Go.ChangeShapes Go.WideShapes Go.ChangeAt Go.RowKit Go.Joins Go.Deep
set_option linter.unusedVariables false

theorem own_ : ownKnob Tryz.prog.godebug = none := by kernel_rfl
theorem laidOut_ : laidOutB Tryz.prog = true := by kernel_rfl
theorem cells_u8 : Tryz.prog.cellsOf 5 = 1 := by kernel_rfl
theorem bytes_u8 : Tryz.prog.bytesOf 5 = 1 := by kernel_rfl
theorem cells_slb : Tryz.prog.cellsOf 22 = 1 := by kernel_rfl
theorem cells_sl8 : Tryz.prog.cellsOf 23 = 1 := by kernel_rfl
theorem cells_job : Tryz.prog.cellsOf 25 = 4 := by kernel_rfl
theorem wf_u8 {n : Int} (h : (Lit.int .u8 n).wf = true) : 0 ≤ n ∧ n ≤ 255 := by
  simp only [Lit.wf, IntKind.min, IntKind.max, IntKind.signed, IntKind.bits, Bool.and_eq_true] at h
  simp at h
  omega
section
variable {H : Type} {enc : TypeId × Value → H} {W : World} {sp : Nat → Bool} {fuel : Nat} {v : Value} {y : DataW H × List MemPlace}
theorem open_bytes20 (hf : DataW.trod enc Tryz.prog W 0 sp true fuel 22 [v] = some y) (hr : ∀ n ∈ y.1.weights Tryz.prog 22, n ≤ reachBytes) :
    ∃ A l c, v = .slice A (l : List Int).length c ∧ BytesAt W A l ∧ l.length ≤ reachBytes := by
  rcases open_ints Tryz.underlying22 Tryz.underlying5 cells_u8 hf with ⟨hcs, hx⟩ | ⟨a, len, cap, zs, hcs, hb, hl, hm, hz, hx, hcell, hwz⟩
  · simp only [List.cons.injEq, and_true] at hcs
    subst hcs
    exact ⟨none, [], 0, rfl, ⟨fun x hx => by simp at hx, fun k x hk => by simp at hk⟩, by simp⟩
  · simp only [List.cons.injEq, and_true] at hcs
    subst hcs
    have hzl : len ≤ zs.length := by rw [hz]; split <;> omega
    have hlen : (zs.take len).length = len := by rw [List.length_take]; omega
    refine ⟨some a, zs.take len, cap, by rw [hlen], ⟨fun x hx => wf_u8 (hwz x (List.mem_of_mem_take hx)), ?_⟩, ?_⟩
    · intro k x hk
      rw [List.getElem?_take] at hk
      split at hk
      · rename_i hkl
        obtain ⟨b, off, rfl, hc⟩ := ints_at hcell (by omega)
        have h1 := hc k (by omega)
        rw [List.getD_eq_getElem?_getD, hk] at h1
        exact ⟨b, off, rfl, cell_lt h1, h1⟩
      · cases hk
    · have h1 := hr ((List.take len zs).length * 1 + (zs.drop len).length * 1) (by
        subst hx
        simp [DataW.weights, Tryz.underlying22, bytes_u8, lits]
        try omega)
      omega
set_option maxRecDepth 100000 in
theorem open_job20 {base : Nat} {d : DataW H} {p : List MemPlace} (hv : Value.okWide Tryz.prog W .any base 25 v) (h : DataW.Trod enc Tryz.prog W 0 (fun _ => true) true 25 v d p)
    (hr : ∀ n ∈ d.weights Tryz.prog 25, n ≤ reachBytes) :
    ∃ BA b bc SA slots sc ints texts, v = .agg #[.slice BA (b : List Int).length bc, .slice SA (slots : List Int).length sc, .int .i64 ints, .int .i64 texts] ∧ BytesAt W BA b ∧ SmallsAt W SA slots ∧ b.length ≤ reachBytes ∧ slots.length ≤ reachBytes := by
  obtain ⟨cs, rfl, hsz⟩ := okWide_struct Tryz.underlying25 hv
  obtain ⟨fuel, hf⟩ := h
  rw [cells_job] at hsz
  obtain ⟨xs, n, _, hd, hl, hlen, hfs⟩ := DataW.trod_struct Tryz.underlying25 hf
  injection hd with hd hp
  subst hd
  have hlen4 : xs.length = 4 := hlen
  match xs, hlen4 with
  | [x0, x1, x2, x3], _ =>
  obtain ⟨l⟩ := cs
  have hl4 : l.length = 4 := hsz
  match l, hl4 with
  | [c0, c1, c2, c3], _ =>
  have f0 : DataW.trod enc Tryz.prog W 0 (fun _ => true) true n 22 (([c0, c1, c2, c3].drop 0).take (Tryz.prog.cellsOf 22)) = some x0 := hfs 0 _ rfl
  rw [cells_slb] at f0
  have f1 : DataW.trod enc Tryz.prog W 0 (fun _ => true) true n 23 (([c0, c1, c2, c3].drop 1).take (Tryz.prog.cellsOf 23)) = some x1 := hfs 1 _ rfl
  rw [cells_sl8] at f1
  have f2 : DataW.trod enc Tryz.prog W 0 (fun _ => true) true n 3 (([c0, c1, c2, c3].drop 2).take (Tryz.prog.cellsOf 3)) = some x2 := hfs 2 _ rfl
  rw [cells_int] at f2
  have f3 : DataW.trod enc Tryz.prog W 0 (fun _ => true) true n 3 (([c0, c1, c2, c3].drop 3).take (Tryz.prog.cellsOf 3)) = some x3 := hfs 3 _ rfl
  rw [cells_int] at f3
  simp only [DataW.weights, Tryz.underlying25, DataW.weightsEach, List.mem_append, List.map_cons, List.map_nil] at hr
  obtain ⟨BA, b, bc, e0, hB, l0⟩ := open_bytes20 f0 (fun n hn => hr n (.inl hn))
  obtain ⟨SA, slots, sc, e1, hS, l1⟩ := open_smalls f1 (fun n hn => hr n (.inr (.inl hn)))
  obtain ⟨ints, e2, d2, w2⟩ := DataW.trod_int Tryz.underlying3 f2
  obtain ⟨texts, e3, d3, w3⟩ := DataW.trod_int Tryz.underlying3 f3
  simp only [List.drop_zero, List.drop_succ_cons, List.take_succ_cons, List.take_zero, List.cons.injEq, and_true] at e0 e1 e2 e3
  subst e0 e1 e2 e3
  exact ⟨BA, b, bc, SA, slots, sc, ints, texts, rfl, hB, hS, l0, l1⟩
end
def tab32 : List Int := [0, 1, 28, 2, 29, 14, 24, 3, 30, 22, 20, 15, 25, 17, 4, 8, 31, 27, 13, 23, 21, 19, 16, 7, 26, 12, 18, 6, 11, 5, 10, 9]
def tab64 : List Int := [0, 1, 56, 2, 57, 49, 28, 3, 61, 58, 42, 50, 38, 29, 17, 4, 62, 47, 59, 36, 45, 43, 51, 22, 53, 39, 33, 30, 24, 18, 12, 5, 63, 55, 48, 27, 60, 41, 37, 16, 46, 35, 44, 21, 52, 32, 23, 11, 54, 26, 40, 15, 34, 20, 31, 10, 25, 14, 19, 9, 13, 8, 7, 6]
def tabPow : List Int := [1, 10, 100, 1000, 10000, 100000, 1000000, 10000000, 100000000, 1000000000, 10000000000, 100000000000, 1000000000000, 10000000000000, 100000000000000, 1000000000000000, 10000000000000000, 100000000000000000, 1000000000000000000, 10000000000000000000]
def layIn (k : IntKind) (l : List Int) : Obj → Obj
  | .cells _ t frozen => .cells (l.map (Value.int k)).toArray t frozen
  | o => o
noncomputable def laidWorld (os : Os) : World :=
  { World.holding Tryz.prog os ⟨#[], #[], []⟩ with heap := (((World.holding Tryz.prog os ⟨#[], #[], []⟩).heap.modify 0 (layIn .u64 tabPow)).modify 1 (layIn .u8 tab32)).modify 2 (layIn .u8 tab64) }
end Go.Proofs.YtabpheanbomibaaGreatDoor
namespace Go.Proofs.YtabpheanbomibaaGreatDoor
open Go.ChangeShapes Go.WideShapes Go.ChangeAt Go.RowKit Go.Joins Go.Deep
set_option linter.unusedVariables false

set_option maxRecDepth 100000 in
theorem codesContract (H : Type) (enc : TypeId × Value → H) (W : World) (base : Nat) (args : Array Value) (ds gs : List (DataW H)) (before : List MemPlace)
    (hval : ∀ (j : Nat) t v, Tryz.f3.params[j]? = some t → args[j]? = some v → Value.okWide Tryz.prog W .any base t v)
    (hsz : (DataW.weightsEach Tryz.prog (Tryz.f3.params.toList ++ Rows.verifyCodesSpec.plain.varTypes Tryz.prog) (ds ++ gs)).all (· ≤ reachBytes) = true)
    (hW : DataW.Whole enc Tryz.prog Tryz.f3.params.toList Rows.verifyCodesSpec.vars false W args.toList ds gs before) :
    Calls Tryz.prog 3 args W fun e W' => ∃ v, e = .returned v ∧ Rows.verifyCodesSpec.post enc Tryz.prog Tryz.f3 false true false false W args v W' := by
  have hW' := hW
  obtain ⟨p, q, hA0, hV, rfl, hfz, hnd⟩ := hW
  have hA : DataW.TrodAll enc Tryz.prog W 0 (fun _ => true) true Tryz.f3.params.toList args.toList ds p := hA0
  rw [Tryz.params3] at hA hval hsz
  obtain ⟨v0, vs0, d0, ds0, p0, q0, hargs, rfl, rfl, h0, r0⟩ := trodAll_cons hA
  obtain ⟨rfl, rfl, rfl⟩ := trodAll_nil r0
  obtain rfl : args = #[v0] := by cases args; simp_all
  obtain ⟨rfl, rfl⟩ := trodVars_none hV
  have k0 := h0
  have lt0 : ∀ x ∈ p0, x.block < W.heap.size := by obtain ⟨m, hm⟩ := k0; exact DataW.trod_lt m _ _ _ hm
  obtain ⟨BA, b, bc, SA, slots, sc, ints, texts, rfl, hB, hS, l0, l1⟩ := open_job20 (hval 0 25 v0 rfl rfl) h0 (fun n hn => by
    have := List.all_eq_true.1 hsz n (DataW.weights_mem_each (j := 0) rfl rfl n hn)
    simpa using this)
  clear hA0 hsz
  have hR : reachBytes = 140737488351232 := rfl
  refine (codes20_any W BA SA b slots bc sc ints texts hB hS (by omega) (by omega)).mono fun e W' ⟨he, bel⟩ => ?_
  subst he
  exact ⟨_, rfl, _, _, _, [], _, [], hW', trodAll_mk1 (shut_bool Tryz.underlying4 _), (trodAll_cons_mk (Below.trod laidOut_ (by kernel_rfl) (of_decide_eq_true (by kernel_rfl)) k0 bel lt0) trodAll_mk0), rfl, bel.frame _, fun h => by cases h⟩
theorem codesLaid_met (os : Os) : laidMet Tryz.prog Rows.verifyCodesRow.laid ((laidWorld os).forCall (fun _ _ => 0) ⟨#[], #[.agg #[.slice none 0 0, .slice none 0 0, .int .i64 0, .int .i64 0]], []⟩).memory :=
  laidMet_of_run' 8 (by kernel_rfl) (by kernel_rfl)
theorem codesReads (os : Os) {H : Type} (enc : TypeId × Value → H) : ∃ places, DataW.whole enc Tryz.prog ((laidWorld os).forCall (fun _ _ => 0) ⟨#[], #[.agg #[.slice none 0 0, .slice none 0 0, .int .i64 0, .int .i64 0]], []⟩).memory Tryz.f3.params.toList Rows.verifyCodesSpec.vars false #[Value.agg #[.slice none 0 0, .slice none 0 0, .int .i64 0, .int .i64 0]].toList 8 = some ([.agg [.nil, .nil, .lit (.int .i64 0), .lit (.int .i64 0)]], [], places) :=
  ⟨[], by kernel_rfl⟩
set_option maxRecDepth 100000 in
theorem codesLifted (os : Os) (started : os.Started) (H : Type) (enc : TypeId × Value → H) (F : Stop.Interp) :
    ReturnsInHanded {} Tryz.checked os 3 .any ((OpenSpec.ofChange Rows.verifyCodesSpec).preRow enc Tryz.prog Tryz.f3 Rows.verifyCodesRow.domain false Rows.verifyCodesRow.laid) (((OpenSpec.ofChange Rows.verifyCodesSpec).at F).post enc Tryz.prog Tryz.f3 false true false false) := by
  obtain ⟨places, hx⟩ := codesReads os enc
  refine returnsInHanded_of_row (C := Tryz.checked) (s := OpenSpec.ofChange Rows.verifyCodesSpec) own_ started (by kernel_rfl) Tryz.func3
    (witness_row_at (enc := enc) (C := Tryz.checked) false (laidWorld os) #[.agg #[.slice none 0 0, .slice none 0 0, .int .i64 0, .int .i64 0]] rfl (by kernel_rfl) (by kernel_rfl) (by kernel_rfl)
      (OpenSpec.preRow_of_cond 8 hx (by kernel_rfl) (fun k hk => by cases hk) (by kernel_rfl) (codesLaid_met os))) ?_
  intro W base args ds gs before hval hW _ _ hsz _ _ _
  exact codesContract H enc W base args ds gs before hval hsz hW
theorem codesSaid : Rows.VerifyCodesSaid :=
  OpenClaim.holds_of_cond 3 Tryz.f3 rfl rfl rfl rfl rfl rfl rfl ⟨rfl, rfl, rfl, rfl, rfl⟩ rfl rfl rfl rfl rfl (by kernel_rfl) Tryz.func3 (by kernel_rfl)
    (of_decide_eq_true (by kernel_rfl)) (by unfold Func.isWrapper; first | (rw [if_pos (by decide +kernel)]; kernel_rfl) | (rw [if_neg (by decide +kernel)]; exact ⟨rfl, rfl⟩))
    (fun os started H enc _ F => by rw [OpenClaim.pre_eq_preRow]; exact codesLifted os started H enc F)
theorem codesPlain (f : FuncId) (fn : Func) (hf : Tryz.pinned.checked.prog.funcNamed "tableau/tableaulaw20.VerifyCodes" = some f) (hfn : Tryz.pinned.checked.prog.funcs[f]? = some fn) :
    false = Tryz.pinned.checked.prog.looks [] ∧ ∀ (j : Nat) t, fn.params[j]? = some t → Tryz.pinned.checked.prog.wantsStandIn t = false := by
  obtain rfl : f = 3 := Option.some.inj ((show Tryz.prog.funcNamed "tableau/tableaulaw20.VerifyCodes" = some 3 by kernel_rfl).symm.trans hf) |>.symm
  obtain rfl : fn = Tryz.f3 := (Option.some.inj (Tryz.func3.symm.trans hfn)).symm
  refine ⟨by kernel_rfl, fun j t ht => ?_⟩
  rw [Tryz.params3] at ht
  obtain rfl : t = 25 := by simpa using Array.mem_of_getElem? ht
  exact (show Tryz.prog.wantsStandIn 25 = false by kernel_rfl)
/-- The law VerifyCodes holds: the card, its listed variables tied to the program's text. -/
theorem verifyCodes_card : Rows.VerifyCodesCardSaid :=
  Claim7.holds_tied_plain_at .later [] _ _ _ _ codesSaid (fun _ h => by cases h) (by kernel_rfl) (fun _ h => by cases h) verifyCodes_row_tie rfl ⟨rfl, rfl⟩ (by kernel_rfl) rfl codesPlain (by kernel_rfl)
#print axioms verifyCodes_card
end Go.Proofs.YtabpheanbomibaaGreatDoor
