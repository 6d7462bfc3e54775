/- The law VerifyMore holds, where what it reads is of bulk at most 1048576: it returns true and leaves its arguments as they were. -/
import Derived.Test.YtggibiodeecljaaVerY
import Derived.Test.YtggibiodeecljaaOpenS
import Derived.Test.YtggibiodeecljaaRows
import Derived.WalkKit
import Derived.ProofKit
import Derived.OpenShut
import Derived.JoinedCond
import Derived.Deep.CondSized
import Derived.ShutString
import Derived.ChangeOld
import Derived.Below
namespace Go.Proofs.Ytggibiodeecljaa
open Go.ChangeShapes Go.WideShapes Go.ChangeAt Go.RowKit Go.Joins Go.Deep
set_option linter.unusedVariables false

theorem own_ : ownKnob Try.prog.godebug = none := by kernel_rfl
theorem laidOut_ : laidOutB Try.prog = true := by kernel_rfl
theorem cells_u8 : Try.prog.cellsOf 5 = 1 := by kernel_rfl
theorem bytes_u8 : Try.prog.bytesOf 5 = 1 := by kernel_rfl
theorem cells_slb : Try.prog.cellsOf 32 = 1 := by kernel_rfl
theorem cells_sl8 : Try.prog.cellsOf 22 = 1 := by kernel_rfl
theorem cells_job : Try.prog.cellsOf 60 = 4 := by kernel_rfl
theorem wf_u8 {n : Int} (h : (Lit.int .u8 n).wf = true) : 0 ≤ n ∧ n ≤ 255 := by
  simp only [Lit.wf, IntKind.min, IntKind.max, IntKind.signed, IntKind.bits, Bool.and_eq_true] at h
  simp at h
  omega
section
variable {H : Type} {enc : TypeId × Value → H} {W : World} {sp : Nat → Bool} {fuel : Nat} {v : Value} {y : DataW H × List MemPlace}
theorem open_bytes20 (hf : DataW.trod enc Try.prog W 0 sp true fuel 32 [v] = some y) (hr : ∀ n ∈ y.1.weights Try.prog 32, n ≤ reachBytes) :
    ∃ A l c, v = .slice A (l : List Int).length c ∧ BytesAt W A l ∧ l.length ≤ reachBytes := by
  rcases open_ints Try.underlying32 Try.underlying5 cells_u8 hf with ⟨hcs, hx⟩ | ⟨a, len, cap, zs, hcs, hb, hl, hm, hz, hx, hcell, hwz⟩
  · simp only [List.cons.injEq, and_true] at hcs
    subst hcs
    exact ⟨none, [], 0, rfl, ⟨fun x hx => by simp at hx, fun k x hk => by simp at hk⟩, by simp⟩
  · simp only [List.cons.injEq, and_true] at hcs
    subst hcs
    have hzl : len ≤ zs.length := by rw [hz]; split <;> omega
    have hlen : (zs.take len).length = len := by rw [List.length_take]; omega
    refine ⟨some a, zs.take len, cap, by rw [hlen], ⟨fun x hx => wf_u8 (hwz x (List.mem_of_mem_take hx)), ?_⟩, ?_⟩
    · intro k x hk
      rw [List.getElem?_take] at hk
      split at hk
      · rename_i hkl
        obtain ⟨b, off, rfl, hc⟩ := ints_at hcell (by omega)
        have h1 := hc k (by omega)
        rw [List.getD_eq_getElem?_getD, hk] at h1
        exact ⟨b, off, rfl, cell_lt h1, h1⟩
      · cases hk
    · have h1 := hr ((List.take len zs).length * 1 + (zs.drop len).length * 1) (by
        subst hx
        simp [DataW.weights, Try.underlying32, bytes_u8, lits]
        try omega)
      omega
set_option maxRecDepth 100000 in
theorem open_job20 {base : Nat} {d : DataW H} {p : List MemPlace} (hv : Value.okWide Try.prog W .any base 60 v) (h : DataW.Trod enc Try.prog W 0 (fun _ => true) true 60 v d p)
    (hr : ∀ n ∈ d.weights Try.prog 60, n ≤ reachBytes) :
    ∃ BA b bc SA slots sc ints texts, v = .agg #[.slice BA (b : List Int).length bc, .slice SA (slots : List Int).length sc, .int .i64 ints, .int .i64 texts] ∧ BytesAt W BA b ∧ SmallsAt W SA slots ∧ b.length ≤ reachBytes ∧ slots.length ≤ reachBytes := by
  obtain ⟨cs, rfl, hsz⟩ := okWide_struct Try.underlying60 hv
  obtain ⟨fuel, hf⟩ := h
  rw [cells_job] at hsz
  obtain ⟨xs, n, _, hd, hl, hlen, hfs⟩ := DataW.trod_struct Try.underlying60 hf
  injection hd with hd hp
  subst hd
  have hlen4 : xs.length = 4 := hlen
  match xs, hlen4 with
  | [x0, x1, x2, x3], _ =>
  obtain ⟨l⟩ := cs
  have hl4 : l.length = 4 := hsz
  match l, hl4 with
  | [c0, c1, c2, c3], _ =>
  have f0 : DataW.trod enc Try.prog W 0 (fun _ => true) true n 32 (([c0, c1, c2, c3].drop 0).take (Try.prog.cellsOf 32)) = some x0 := hfs 0 _ rfl
  rw [cells_slb] at f0
  have f1 : DataW.trod enc Try.prog W 0 (fun _ => true) true n 22 (([c0, c1, c2, c3].drop 1).take (Try.prog.cellsOf 22)) = some x1 := hfs 1 _ rfl
  rw [cells_sl8] at f1
  have f2 : DataW.trod enc Try.prog W 0 (fun _ => true) true n 3 (([c0, c1, c2, c3].drop 2).take (Try.prog.cellsOf 3)) = some x2 := hfs 2 _ rfl
  rw [cells_int] at f2
  have f3 : DataW.trod enc Try.prog W 0 (fun _ => true) true n 3 (([c0, c1, c2, c3].drop 3).take (Try.prog.cellsOf 3)) = some x3 := hfs 3 _ rfl
  rw [cells_int] at f3
  simp only [DataW.weights, Try.underlying60, DataW.weightsEach, List.mem_append, List.map_cons, List.map_nil] at hr
  obtain ⟨BA, b, bc, e0, hB, l0⟩ := open_bytes20 f0 (fun n hn => hr n (.inl hn))
  obtain ⟨SA, slots, sc, e1, hS, l1⟩ := open_smalls f1 (fun n hn => hr n (.inr (.inl hn)))
  obtain ⟨ints, e2, d2, w2⟩ := DataW.trod_int Try.underlying3 f2
  obtain ⟨texts, e3, d3, w3⟩ := DataW.trod_int Try.underlying3 f3
  simp only [List.drop_zero, List.drop_succ_cons, List.take_succ_cons, List.take_zero, List.cons.injEq, and_true] at e0 e1 e2 e3
  subst e0 e1 e2 e3
  exact ⟨BA, b, bc, SA, slots, sc, ints, texts, rfl, hB, hS, l0, l1⟩
end
set_option maxRecDepth 100000 in
theorem moreLifted (os : Os) (started : os.Started) (H : Type) (enc : TypeId × Value → H) (F : Stop.Interp) :
    ReturnsInHanded {} Try.checked os 8 .any ((Rows.OpenSpec.upto Rows.verifyMoreSpec).pre6 enc Try.prog Try.f8 Rows.verifyMoreUptoRow.domain false) (((Rows.OpenSpec.upto Rows.verifyMoreSpec).at F).post enc Try.prog Try.f8 false true false false) := by
  refine returnsInHanded_of_cond_sized (C := Try.checked) (s := Rows.OpenSpec.upto Rows.verifyMoreSpec) (k := Rows.uptoSmall) rfl own_ started (by kernel_rfl) Try.func8
    (OpenSpec.witness (enc := enc) (C := Try.checked) (s := Rows.OpenSpec.upto Rows.verifyMoreSpec) (k := Rows.uptoSmall) rfl false ⟨#[], #[.agg #[.slice none 0 0, .slice none 0 0, .int .i64 0, .int .i64 0], .int .i8 0], []⟩ 8 (by kernel_rfl) (by kernel_rfl) (by kernel_rfl)
      (x := ([.agg [.nil, .nil, .lit (.int .i64 0), .lit (.int .i64 0)], .lit (.int .i8 0)], [], [])) (by kernel_rfl) rfl (by kernel_rfl)) ?_
  intro W base args ds gs before hval0 hW hcnd hk0 hsz0 _
  have hval : ∀ (j : Nat) t v, Try.f8.params[j]? = some t → args[j]? = some v → Value.okWide Try.prog W .any base t v := hval0
  have hsz : (DataW.weightsEach Try.prog (Try.f8.params.toList ++ Rows.verifyMoreSpec.plain.varTypes Try.prog) (ds ++ gs)).all (· ≤ reachBytes) = true := hsz0
  have hW' := hW
  obtain ⟨p, q, hA0, hV, rfl, hfz, hnd⟩ := hW
  have hA : DataW.TrodAll enc Try.prog W 0 (fun _ => true) true Try.f8.params.toList args.toList ds p := hA0
  rw [Try.params8] at hA hval hsz
  obtain ⟨v0, vs0, d0, ds0, p0, q0, hargs, rfl, rfl, h0, r0⟩ := trodAll_cons hA
  obtain ⟨v1, vs1, d1, ds1, p1, q1, rfl, rfl, rfl, h1, r1⟩ := trodAll_cons r0
  obtain ⟨rfl, rfl, rfl⟩ := trodAll_nil r1
  obtain rfl : args = #[v0, v1] := by cases args; simp_all
  obtain ⟨rfl, rfl⟩ := trodVars_none hV
  have k0 := h0
  have lt0 : ∀ x ∈ p0, x.block < W.heap.size := by obtain ⟨m, hm⟩ := k0; exact DataW.trod_lt m _ _ _ hm
  obtain ⟨BA, b, bc, SA, slots, sc, ints, texts, rfl, hB, hS, l0, l1⟩ := open_job20 (hval 0 60 v0 rfl rfl) h0 (fun n hn => by
    have := List.all_eq_true.1 hsz n (DataW.weights_mem_each (j := 0) rfl rfl n hn)
    simpa using this)
  obtain ⟨kind, rfl, rfl, rfl, w1⟩ := open_int Try.underlying40 (hval 1 40 v1 rfl rfl) h1
  clear hA0 hval0 hsz hsz0 hk0
  have hR : reachBytes = 140737488351232 := rfl
  refine (more_any W BA SA b slots bc sc ints texts kind hB hS (by omega) (by omega)).mono fun e W' ⟨he, bel⟩ => ?_
  subst he
  exact ⟨_, rfl, _, _, _, [], _, [], hW', trodAll_mk1 (shut_bool Try.underlying4 _), (trodAll_cons_mk (Below.trod laidOut_ (by kernel_rfl) (of_decide_eq_true (by kernel_rfl)) k0 bel lt0) (trodAll_cons_mk (shut_int Try.underlying40 w1) trodAll_mk0)), rfl, bel.frame _, fun h => by cases h⟩
/-- The law VerifyMore holds (the second form). -/
theorem verifyMore_holds : Rows.VerifyMoreUptoSaid :=
  OpenClaim.holds_of_cond 8 Try.f8 rfl rfl rfl rfl rfl rfl rfl ⟨rfl, rfl, rfl, rfl, rfl⟩ rfl rfl rfl rfl rfl (by kernel_rfl) Try.func8 (by kernel_rfl)
    (of_decide_eq_true (by kernel_rfl)) (by unfold Func.isWrapper; first | (rw [if_pos (by decide +kernel)]; kernel_rfl) | (rw [if_neg (by decide +kernel)]; exact ⟨rfl, rfl⟩))
    (fun os started H enc _ F => moreLifted os started H enc F)
#print axioms verifyMore_holds
end Go.Proofs.Ytggibiodeecljaa
