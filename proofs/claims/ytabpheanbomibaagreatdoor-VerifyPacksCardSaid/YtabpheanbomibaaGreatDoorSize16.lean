/- tableauref16: Size, instr. -/
import Derived.Test.YtabpheanbomibaaGreatDoorAll
import Derived.Test.YtabpheanbomibaaGreatDoorWidths
namespace Go.Proofs.YtabpheanbomibaaGreatDoor
open Go.RowKit
set_option linter.unusedVariables false

theorem widthsK_in {k : Int} (hk : k = 0 ∨ k = 1 ∨ k = 2 ∨ k = 3) : (widthsK k).length ≤ 3 ∧ (∀ x ∈ widthsK k, x = 1 ∨ x = 2) ∧ (widthsK k).sum = sizeK k ∧ 0 ≤ sizeK k ∧ sizeK k ≤ 4 := by
  rcases hk with rfl | rfl | rfl | rfl <;> decide
theorem drop_head {l : List Int} {j : Nat} {x : Int} (h : l[j]? = some x) : l.drop j = x :: l.drop (j + 1) := by
  obtain ⟨h2, h3⟩ := List.getElem?_eq_some_iff.1 h
  rw [List.drop_eq_getElem_cons h2, h3]

set_option maxRecDepth 100000 in
set_option maxHeartbeats 1000000 in
theorem size16_none (op : Int) (w : World) (hf : formOf op = none) : Calls Tryz.prog 40 #[.int .u8 op] w fun e w' => e = .returned (.int .i64 0) ∧ Below w.heap.size w w' := by
  have HF := Lib.hid hf
  clear hf
  go_enter Tryz.func40, Tryz.ntmps40
  go_wp2_with fail
  refine (widths_none op _ HF.out).mono ?_
  rintro e w1 ⟨rfl, rfl⟩
  go_wp2_with fail
  go_ret
  exact ⟨rfl, Below.refl _ _⟩
set_option maxRecDepth 100000 in
set_option maxHeartbeats 1000000 in
theorem size16_some (op : Int) (nm : ByteArray) (k : Int) (w : World) (hf : formOf op = some (nm, k)) : Calls Tryz.prog 40 #[.int .u8 op] w fun e w' => e = .returned (.int .i64 (1 + sizeK k)) ∧ Below w.heap.size w w' := by
  obtain ⟨h3, hin, hsum, hs0, hs1⟩ := widthsK_in (form_kind hf)
  have hws := fun wx => widths_some op nm k wx hf
  obtain ⟨ws, hw⟩ : ∃ ws, ws = widthsK k := ⟨_, rfl⟩
  rw [← hw] at h3 hin hsum
  simp only [← hw] at hws
  obtain ⟨n, hn⟩ : ∃ n, ws.length = n := ⟨_, rfl⟩
  rw [hn] at h3
  simp only [hn] at hws
  have HW := Lib.hid hws
  have HI := Lib.hid hin
  have HS := Lib.hid hsum
  have HN := Lib.hid hn
  clear hws hin hsum hn hw hf
  go_enter Tryz.func40, Tryz.ntmps40
  go_wp2_with fail
  refine (HW.out _).mono ?_
  rintro e w1 ⟨A, c, rfl, hA, hb⟩
  have HB := Lib.hid hb
  have HA := Lib.hid hA
  clear hb hA
  go_wp2_with fail
  go_loop [5, 6] (fun s i => ∃ (j : Nat) (S : Int), j ≤ n ∧ 1 ≤ S ∧ S ≤ 1 + 2 * j ∧ Hid (S + (ws.drop j).sum = 1 + sizeK k) ∧ s = .int .i64 S ∧ i = .int .i64 j) (fun _ i => n - (intOf i).toNat)
  case atStart => exact ⟨0, 1, by omega, by omega, by omega, by rw [List.drop_zero]; exact congrArg (1 + ·) HS.out, rfl, rfl⟩
  case round =>
    obtain ⟨j, S, hj, hS0, hS1, H, rfl, rfl⟩ := hrel
    by_cases hlt : j < n
    · obtain ⟨x, hx⟩ : ∃ x, ws[j]? = some x := ⟨_, List.getElem?_eq_getElem (by rw [HN.out]; exact hlt)⟩
      obtain ⟨b, off, rfl, hbl, hc⟩ := HA.out j x hx
      have hx12 := HI.out x (List.mem_of_getElem? hx)
      have hH := H.out
      rw [drop_head hx, List.sum_cons] at hH
      have HH := Lib.hid hH
      clear hH hx
      go_wp2_with fail
      go_round
      case rel => exact ⟨j + 1, S + x, by omega, by omega, by omega, by have := HH.out; show S + x + _ = _; omega, by go_num, by go_num⟩
      case measure => (simp [intOf]; try omega)
    · have hfin : S = 1 + sizeK k := by
        have := H.out
        rw [List.drop_of_length_le (by rw [HN.out]; omega)] at this
        simpa using this
      have HF := Lib.hid hfin
      clear hfin
      go_wp2_with fail
      go_ret
      exact ⟨by rw [HF.out]; rfl, HB.out⟩
theorem size16_any (op : Int) (w : World) : Calls Tryz.prog 40 #[.int .u8 op] w fun e w' => e = .returned (.int .i64 (sizeI op)) ∧ Below w.heap.size w w' := by
  unfold sizeI
  cases hf : formOf op with
  | none => exact size16_none op w hf
  | some p => exact size16_some op p.1 p.2 w hf

set_option maxRecDepth 100000 in
set_option maxHeartbeats 2000000 in
theorem instr_any (at_ op : Int) (A : Option Addr) (l : List Int) (c : Nat) (w : World) (hl : l.length ≤ 3) (hA : IntsAt w A l) :
    Calls Tryz.prog 92 #[.int .i64 at_, .int .u8 op, .slice A l.length c] w fun e w' => e = .returned (.agg #[.int .i64 at_, .int .u8 op, .int .i64 (l.getD 0 0), .int .i64 (l.getD 1 0), .int .i64 (l.getD 2 0)]) ∧ Below w.heap.size w w' := by
  rcases l with _ | ⟨a, _ | ⟨b, _ | ⟨d, _ | ⟨e, r⟩⟩⟩⟩
  · clear hA
    simp only [List.length_nil, List.getD_nil]
    go_enter Tryz.func92, Tryz.ntmps92
    go_wp2_with fail
    exact bodyPost_ret (v := .agg #[.int .i64 at_, .int .u8 op, .int .i64 0, .int .i64 0, .int .i64 0]) (by simp [results, Tryz.results92, go_sem]) rfl ⟨rfl, ((Below.refl _ _).alloc (Nat.le_refl _) _).alloc (by simp) _⟩
  · obtain ⟨b0, off, rfl, hb, h0⟩ := hA 0 a rfl
    clear hA
    simp only [Nat.add_zero] at h0
    simp only [List.length_cons, List.length_nil]
    go_enter Tryz.func92, Tryz.ntmps92
    go_wp2_with fail
    exact bodyPost_ret (v := .agg #[.int .i64 at_, .int .u8 op, .int .i64 a, .int .i64 0, .int .i64 0]) (by simp [results, Tryz.results92, go_sem]) rfl ⟨rfl, ((Below.refl _ _).alloc (Nat.le_refl _) _).alloc (by simp) _⟩
  · obtain ⟨b0, off, rfl, hb, h0⟩ := hA 0 a rfl
    obtain ⟨b1, off1, e1, _, h1⟩ := hA 1 b rfl
    injection e1 with e1
    injection e1 with e1 e2
    subst e1 e2
    clear hA
    simp only [Nat.add_zero] at h0
    simp only [List.length_cons, List.length_nil]
    go_enter Tryz.func92, Tryz.ntmps92
    go_wp2_with fail
    exact bodyPost_ret (v := .agg #[.int .i64 at_, .int .u8 op, .int .i64 a, .int .i64 b, .int .i64 0]) (by simp [results, Tryz.results92, go_sem]) rfl ⟨rfl, ((Below.refl _ _).alloc (Nat.le_refl _) _).alloc (by simp) _⟩
  · obtain ⟨b0, off, rfl, hb, h0⟩ := hA 0 a rfl
    obtain ⟨b1, off1, e1, _, h1⟩ := hA 1 b rfl
    injection e1 with e1
    injection e1 with e1 e2
    subst e1 e2
    obtain ⟨b1, off1, e1, _, h2⟩ := hA 2 d rfl
    injection e1 with e1
    injection e1 with e1 e2
    subst e1 e2
    clear hA
    simp only [Nat.add_zero] at h0
    simp only [List.length_cons, List.length_nil]
    go_enter Tryz.func92, Tryz.ntmps92
    go_wp2_with fail
    exact bodyPost_ret (v := .agg #[.int .i64 at_, .int .u8 op, .int .i64 a, .int .i64 b, .int .i64 d]) (by simp [results, Tryz.results92, go_sem]) rfl ⟨rfl, ((Below.refl _ _).alloc (Nat.le_refl _) _).alloc (by simp) _⟩
  · simp at hl
end Go.Proofs.YtabpheanbomibaaGreatDoor
