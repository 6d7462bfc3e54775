/- Checks of packs: what they answer. No program's function in sight. pack.Check's parts: ranged, checkEffect. pack.checkKind. tableauref19: effect. tableauref19: kind. Texts in their order: the model's comparison, and tableauref19.below. pack.checkPools. How many bytes a pack takes: sums, part by part. No program's function in sight. pack.Check. tableauref19: ints, texts, Size. tableauref19.Check. -/
import Derived.Handy
import Derived.Lib.Strings
import Derived.Deep.QuietTactic
import Derived.BigQuiet
import Derived.Test.YtabpheanbomibaaGreatDoorPkA
import Derived.Test.YtabpheanbomibaaGreatDoorPkB
namespace Go.Proofs.YtabpheanbomibaaGreatDoor
open Go.RowKit
set_option linter.unusedVariables false

def statBad (k : Knd) : Bool := outR 0 1000000000 k.cost || outR 0 1000000000 k.power || outR 0 1000000000 k.health || decide (16 < k.tags.length)
theorem kndC_pool {n : Int} {k : Knd} (h : outR 0 (n - 1) k.name = true) : kndC n k = some 42 := by
  unfold kndC
  rw [orS_some (flt_true h)]
theorem kndC_stat {n : Int} {k : Knd} (h : outR 0 (n - 1) k.name = false) (h2 : statBad k = true) : kndC n k = some 56 := by
  unfold statBad at h2
  unfold kndC
  rw [orS_none (flt_false h), orS_some (flt_true h2)]
theorem kndC_tags {n : Int} {k : Knd} (h : outR 0 (n - 1) k.name = false) (h2 : statBad k = false) : kndC n k = orS (firstS (tagC n k.tags) k.tags.length) (orS (flt (decide (8 < k.effs.length)) 56) (firstS (fun i => effC (k.effs.getD i eff0)) k.effs.length)) := by
  unfold statBad at h2
  unfold kndC
  rw [orS_none (flt_false h), orS_none (flt_false h2)]
theorem getD_at {α : Type} {l : List α} {i : Nat} {x d : α} (h : l[i]? = some x) : l.getD i d = x := by rw [List.getD_eq_getElem?_getD, h]; rfl
theorem tagC_pool {n : Int} {l : List Int} {i : Nat} {t : Int} (h : l[i]? = some t) (hq : outR 0 (n - 1) t = true) : tagC n l i = some 42 := by
  unfold tagC
  rw [getD_at h, orS_some (flt_true hq)]
theorem tagC_zero {n : Int} {l : List Int} {t : Int} (h : l[0]? = some t) (hq : outR 0 (n - 1) t = false) : tagC n l 0 = none := by
  unfold tagC
  rw [getD_at h, orS_none (flt_false hq), flt_false (by simp)]
theorem tagC_order {n : Int} {l : List Int} {i : Nat} {t p : Int} (h : l[i]? = some t) (hi : 0 < i) (hp : l[i - 1]? = some p) (hq : outR 0 (n - 1) t = false) (ht : t ≤ p) : tagC n l i = some 57 := by
  unfold tagC
  rw [getD_at h, getD_at hp, orS_none (flt_false hq), flt_true (by simp [hi, ht])]
theorem tagC_fine {n : Int} {l : List Int} {i : Nat} {t p : Int} (h : l[i]? = some t) (hp : l[i - 1]? = some p) (hq : outR 0 (n - 1) t = false) (ht : p < t) : tagC n l i = none := by
  unfold tagC
  rw [getD_at h, getD_at hp, orS_none (flt_false hq), flt_false (by rw [decide_eq_false (p := t ≤ p) (by omega)]; simp)]
theorem none_succ {α : Type} {f : Nat → Option α} {i : Nat} (h : ∀ j, j < i → f j = none) (hi : f i = none) : ∀ j, j < i + 1 → f j = none := fun j hj => by
  by_cases hji : j = i
  · rw [hji]; exact hi
  · exact h j (by omega)
theorem effC_ways (x : Eff) : effC x = none ∨ effC x = some 56 := by
  unfold effC flt
  split
  · exact .inr rfl
  · exact .inl rfl
end Go.Proofs.YtabpheanbomibaaGreatDoor
namespace Go.Proofs.YtabpheanbomibaaGreatDoor
open Go.RowKit
set_option linter.unusedVariables false

theorem ranged_any (n lo hi : Int) (w : World) : Calls Tryz.prog 128 #[.int .i64 n, .int .i64 lo, .int .i64 hi] w fun e w' => e = .returned (.bool (!outR lo hi n)) ∧ w = w' := by
  by_cases h1 : lo ≤ n
  · have e : outR lo hi n = decide (hi < n) := by unfold outR; rw [decide_eq_false (by omega)]; rfl
    rw [e]
    clear e
    go_enter Tryz.func128, Tryz.ntmps128
    go_wp2
    go_ret
    exact ⟨by congr 2; by_cases h2 : hi < n <;> simp [h2] <;> omega, rfl⟩
  · have e : outR lo hi n = true := by unfold outR; rw [decide_eq_true (by omega)]; rfl
    rw [e]
    clear e
    go_enter Tryz.func128, Tryz.ntmps128
    go_wp2
    go_ret
    exact ⟨rfl, rfl⟩
set_option maxRecDepth 100000 in
set_option maxHeartbeats 2000000 in
theorem checkEff_any (x : Eff) (SA CA : Option Addr) (sc cc : Nat) (w : World) (hx : EffSm x) (hS : SmallsAt w SA x.slots) (h8 : ∀ s ∈ x.slots, -128 ≤ s ∧ s ≤ 127) :
    Calls Tryz.prog 129 #[.agg (effV x SA CA sc cc)] w fun e w' => e = .returned (.int .i64 (errO (effC x))) ∧ Below w.heap.size w w' := by
  obtain ⟨R, hR⟩ : ∃ R, R = errO (effC x) := ⟨_, rfl⟩
  rw [← hR]
  obtain ⟨on, slots, code, bd⟩ := x
  obtain ⟨l1, l2⟩ := hx
  simp only [effV] at l1 l2 hS h8 ⊢
  unfold effC effBad at hR
  simp only at hR
  obtain ⟨n, hn⟩ : ∃ n, slots.length = n := ⟨_, rfl⟩
  obtain ⟨m, hm⟩ : ∃ m, code.length = m := ⟨_, rfl⟩
  obtain ⟨q0, hq0⟩ : ∃ q, outR 0 4 on = q := ⟨_, rfl⟩
  obtain ⟨q2, hq2⟩ : ∃ q, outR 0 4611686018427387904 bd = q := ⟨_, rfl⟩
  rw [hn] at l1 hR ⊢
  rw [hm] at l2 hR ⊢
  rw [hq0, hq2] at hR
  have hr0 := ranged_any on 0 4
  have hr2 := ranged_any bd 0 4611686018427387904
  rw [hq0] at hr0
  rw [hq2] at hr2
  have HR := Lib.hid hR
  have HS := Lib.hid hS
  have HS8 := Lib.hid h8
  have HBW := Lib.hid ((Below.refl w.heap.size w).alloc (Nat.le_refl _) (.cells #[.int .i64 on, .slice SA n sc, .slice CA m cc, .int .i64 bd] 125))
  have HN := Lib.hid hn
  have HR0 := Lib.hid hr0
  have HR2 := Lib.hid hr2
  clear hR hS h8 hn hm hq0 hq2 hr0 hr2
  cases q0 with
  | true =>
    go_enter Tryz.func129, Tryz.ntmps129
    go_wp2_with fail
    refine (HR0.out _).mono ?_
    rintro e w1 ⟨rfl, rfl⟩
    go_wp2_with fail
    have hfin : R = errO (flt (!false || !slotsOk slots) 56) := by
      rw [HR.out]
      congr 2 <;> simp
    have HFI := Lib.hid hfin
    clear hfin
    go_loopw [3, 29] (fun ok iv wr => ∃ (i : Nat) (q : Bool), i ≤ n ∧ ok = .bool q ∧ iv = .int .i64 i ∧ Hid (q = (false && slotsOk (slots.take i))) ∧ Below w.heap.size w wr) (fun _ iv _ => n - (intOf iv).toNat)
    case atStart => exact ⟨0, false, by omega, (by first | rfl | rw [decide_eq_false (by omega)] | rw [decide_eq_true (by omega)]), rfl, Lib.hid (by simp [slotsOk]), HBW.out⟩
    case round =>
      obtain ⟨i, q, hi, rfl, rfl, HQ, hbel⟩ := hrel
      by_cases hin : i < n
      · obtain ⟨x, hx⟩ : ∃ x, slots[i]? = some x := ⟨_, List.getElem?_eq_getElem (by rw [HN.out]; exact hin)⟩
        obtain ⟨b, off, rfl, hbl, hc⟩ := HS.out i x hx
        have hcw := (hbel.cell (p := ⟨b, _, none⟩) hbl).trans hc
        have hii : (i : Int) < n := by omega
        have hsu := slotsOk_succ hx
        have HSU := Lib.hid hsu
        have hb8 : -128 ≤ x ∧ x ≤ 127 := HS8.out x (List.mem_of_getElem? hx)
        obtain ⟨hb8a, hb8b⟩ := hb8
        have hcv : IntKind.i64.wrap x = x := by rw [IntKind.wrap_i64]; (try unfold wrap64); omega
        have HB := Lib.hid hbel
        clear hx hc hsu hbel
        cases q with
        | true =>
          go_wp2_with fail
          refine (ranged_any x 1 6 _).mono ?_
          rintro e w3 ⟨rfl, rfl⟩
          go_wp2_with fail
          go_roundw
          case rel => exact ⟨i + 1, !outR 1 6 x, by omega, by go_num, by go_num, Lib.hid (by rw [HSU.out, ← Bool.and_assoc, ← HQ.out, Bool.true_and]), HB.out⟩
          case measure => (simp [intOf]; try omega)
        | false =>
          go_wp2_with fail
          go_roundw
          case rel => exact ⟨i + 1, false, by omega, by go_num, by go_num, Lib.hid (by rw [HSU.out, ← Bool.and_assoc, ← HQ.out, Bool.false_and]), HB.out⟩
          case measure => (simp [intOf]; try omega)
      · have hge : (n : Int) ≤ i := by omega
        have hend : R = errO (flt (!q) 56) := by
          rw [HFI.out, HQ.out, List.take_of_length_le (by rw [HN.out]; omega), Bool.not_and]
        have HE := Lib.hid hend
        have HB := Lib.hid hbel
        clear hend hbel
        cases q with
        | true =>
          go_wp2_with fail
          go_ret
          exact ⟨by rw [HE.out]; rfl, HB.out⟩
        | false =>
          go_wp2_with fail
          go_ret
          exact ⟨by rw [HE.out]; rfl, HB.out⟩
  | false =>
    by_cases h32 : (32 : Int) < n
    · have f1 : decide (32 < n) = true := decide_eq_true (by omega)
      go_enter Tryz.func129, Tryz.ntmps129
      go_wp2_with fail
      refine (HR0.out _).mono ?_
      rintro e w1 ⟨rfl, rfl⟩
      go_wp2_with fail
      have hfin : R = errO (flt (!false || !slotsOk slots) 56) := by
        rw [HR.out]
        congr 2 <;> simp [f1]
      have HFI := Lib.hid hfin
      clear hfin
      go_loopw [3, 29] (fun ok iv wr => ∃ (i : Nat) (q : Bool), i ≤ n ∧ ok = .bool q ∧ iv = .int .i64 i ∧ Hid (q = (false && slotsOk (slots.take i))) ∧ Below w.heap.size w wr) (fun _ iv _ => n - (intOf iv).toNat)
      case atStart => exact ⟨0, false, by omega, (by first | rfl | rw [decide_eq_false (by omega)] | rw [decide_eq_true (by omega)]), rfl, Lib.hid (by simp [slotsOk]), HBW.out⟩
      case round =>
        obtain ⟨i, q, hi, rfl, rfl, HQ, hbel⟩ := hrel
        by_cases hin : i < n
        · obtain ⟨x, hx⟩ : ∃ x, slots[i]? = some x := ⟨_, List.getElem?_eq_getElem (by rw [HN.out]; exact hin)⟩
          obtain ⟨b, off, rfl, hbl, hc⟩ := HS.out i x hx
          have hcw := (hbel.cell (p := ⟨b, _, none⟩) hbl).trans hc
          have hii : (i : Int) < n := by omega
          have hsu := slotsOk_succ hx
          have HSU := Lib.hid hsu
          have hb8 : -128 ≤ x ∧ x ≤ 127 := HS8.out x (List.mem_of_getElem? hx)
          obtain ⟨hb8a, hb8b⟩ := hb8
          have hcv : IntKind.i64.wrap x = x := by rw [IntKind.wrap_i64]; (try unfold wrap64); omega
          have HB := Lib.hid hbel
          clear hx hc hsu hbel
          cases q with
          | true =>
            go_wp2_with fail
            refine (ranged_any x 1 6 _).mono ?_
            rintro e w3 ⟨rfl, rfl⟩
            go_wp2_with fail
            go_roundw
            case rel => exact ⟨i + 1, !outR 1 6 x, by omega, by go_num, by go_num, Lib.hid (by rw [HSU.out, ← Bool.and_assoc, ← HQ.out, Bool.true_and]), HB.out⟩
            case measure => (simp [intOf]; try omega)
          | false =>
            go_wp2_with fail
            go_roundw
            case rel => exact ⟨i + 1, false, by omega, by go_num, by go_num, Lib.hid (by rw [HSU.out, ← Bool.and_assoc, ← HQ.out, Bool.false_and]), HB.out⟩
            case measure => (simp [intOf]; try omega)
        · have hge : (n : Int) ≤ i := by omega
          have hend : R = errO (flt (!q) 56) := by
            rw [HFI.out, HQ.out, List.take_of_length_le (by rw [HN.out]; omega), Bool.not_and]
          have HE := Lib.hid hend
          have HB := Lib.hid hbel
          clear hend hbel
          cases q with
          | true =>
            go_wp2_with fail
            go_ret
            exact ⟨by rw [HE.out]; rfl, HB.out⟩
          | false =>
            go_wp2_with fail
            go_ret
            exact ⟨by rw [HE.out]; rfl, HB.out⟩
    · have f1 : decide (32 < n) = false := decide_eq_false (by omega)
      cases q2 with
      | true =>
        go_enter Tryz.func129, Tryz.ntmps129
        go_wp2_with fail
        refine (HR0.out _).mono ?_
        rintro e w1 ⟨rfl, rfl⟩
        go_wp2_with fail
        refine (HR2.out _).mono ?_
        rintro e w1 ⟨rfl, rfl⟩
        go_wp2_with fail
        have hfin : R = errO (flt (!false || !slotsOk slots) 56) := by
          rw [HR.out]
          congr 2 <;> simp [f1]
        have HFI := Lib.hid hfin
        clear hfin
        go_loopw [3, 29] (fun ok iv wr => ∃ (i : Nat) (q : Bool), i ≤ n ∧ ok = .bool q ∧ iv = .int .i64 i ∧ Hid (q = (false && slotsOk (slots.take i))) ∧ Below w.heap.size w wr) (fun _ iv _ => n - (intOf iv).toNat)
        case atStart => exact ⟨0, false, by omega, (by first | rfl | rw [decide_eq_false (by omega)] | rw [decide_eq_true (by omega)]), rfl, Lib.hid (by simp [slotsOk]), HBW.out⟩
        case round =>
          obtain ⟨i, q, hi, rfl, rfl, HQ, hbel⟩ := hrel
          by_cases hin : i < n
          · obtain ⟨x, hx⟩ : ∃ x, slots[i]? = some x := ⟨_, List.getElem?_eq_getElem (by rw [HN.out]; exact hin)⟩
            obtain ⟨b, off, rfl, hbl, hc⟩ := HS.out i x hx
            have hcw := (hbel.cell (p := ⟨b, _, none⟩) hbl).trans hc
            have hii : (i : Int) < n := by omega
            have hsu := slotsOk_succ hx
            have HSU := Lib.hid hsu
            have hb8 : -128 ≤ x ∧ x ≤ 127 := HS8.out x (List.mem_of_getElem? hx)
            obtain ⟨hb8a, hb8b⟩ := hb8
            have hcv : IntKind.i64.wrap x = x := by rw [IntKind.wrap_i64]; (try unfold wrap64); omega
            have HB := Lib.hid hbel
            clear hx hc hsu hbel
            cases q with
            | true =>
              go_wp2_with fail
              refine (ranged_any x 1 6 _).mono ?_
              rintro e w3 ⟨rfl, rfl⟩
              go_wp2_with fail
              go_roundw
              case rel => exact ⟨i + 1, !outR 1 6 x, by omega, by go_num, by go_num, Lib.hid (by rw [HSU.out, ← Bool.and_assoc, ← HQ.out, Bool.true_and]), HB.out⟩
              case measure => (simp [intOf]; try omega)
            | false =>
              go_wp2_with fail
              go_roundw
              case rel => exact ⟨i + 1, false, by omega, by go_num, by go_num, Lib.hid (by rw [HSU.out, ← Bool.and_assoc, ← HQ.out, Bool.false_and]), HB.out⟩
              case measure => (simp [intOf]; try omega)
          · have hge : (n : Int) ≤ i := by omega
            have hend : R = errO (flt (!q) 56) := by
              rw [HFI.out, HQ.out, List.take_of_length_le (by rw [HN.out]; omega), Bool.not_and]
            have HE := Lib.hid hend
            have HB := Lib.hid hbel
            clear hend hbel
            cases q with
            | true =>
              go_wp2_with fail
              go_ret
              exact ⟨by rw [HE.out]; rfl, HB.out⟩
            | false =>
              go_wp2_with fail
              go_ret
              exact ⟨by rw [HE.out]; rfl, HB.out⟩
      | false =>
        by_cases h65 : (65535 : Int) < m
        · have f2 : decide (65535 < m) = true := decide_eq_true (by omega)
          go_enter Tryz.func129, Tryz.ntmps129
          go_wp2_with fail
          refine (HR0.out _).mono ?_
          rintro e w1 ⟨rfl, rfl⟩
          go_wp2_with fail
          refine (HR2.out _).mono ?_
          rintro e w1 ⟨rfl, rfl⟩
          go_wp2_with fail
          have hfin : R = errO (flt (!false || !slotsOk slots) 56) := by
            rw [HR.out]
            congr 2 <;> simp [f1, f2]
          have HFI := Lib.hid hfin
          clear hfin
          go_loopw [3, 29] (fun ok iv wr => ∃ (i : Nat) (q : Bool), i ≤ n ∧ ok = .bool q ∧ iv = .int .i64 i ∧ Hid (q = (false && slotsOk (slots.take i))) ∧ Below w.heap.size w wr) (fun _ iv _ => n - (intOf iv).toNat)
          case atStart => exact ⟨0, false, by omega, (by first | rfl | rw [decide_eq_false (by omega)] | rw [decide_eq_true (by omega)]), rfl, Lib.hid (by simp [slotsOk]), HBW.out⟩
          case round =>
            obtain ⟨i, q, hi, rfl, rfl, HQ, hbel⟩ := hrel
            by_cases hin : i < n
            · obtain ⟨x, hx⟩ : ∃ x, slots[i]? = some x := ⟨_, List.getElem?_eq_getElem (by rw [HN.out]; exact hin)⟩
              obtain ⟨b, off, rfl, hbl, hc⟩ := HS.out i x hx
              have hcw := (hbel.cell (p := ⟨b, _, none⟩) hbl).trans hc
              have hii : (i : Int) < n := by omega
              have hsu := slotsOk_succ hx
              have HSU := Lib.hid hsu
              have hb8 : -128 ≤ x ∧ x ≤ 127 := HS8.out x (List.mem_of_getElem? hx)
              obtain ⟨hb8a, hb8b⟩ := hb8
              have hcv : IntKind.i64.wrap x = x := by rw [IntKind.wrap_i64]; (try unfold wrap64); omega
              have HB := Lib.hid hbel
              clear hx hc hsu hbel
              cases q with
              | true =>
                go_wp2_with fail
                refine (ranged_any x 1 6 _).mono ?_
                rintro e w3 ⟨rfl, rfl⟩
                go_wp2_with fail
                go_roundw
                case rel => exact ⟨i + 1, !outR 1 6 x, by omega, by go_num, by go_num, Lib.hid (by rw [HSU.out, ← Bool.and_assoc, ← HQ.out, Bool.true_and]), HB.out⟩
                case measure => (simp [intOf]; try omega)
              | false =>
                go_wp2_with fail
                go_roundw
                case rel => exact ⟨i + 1, false, by omega, by go_num, by go_num, Lib.hid (by rw [HSU.out, ← Bool.and_assoc, ← HQ.out, Bool.false_and]), HB.out⟩
                case measure => (simp [intOf]; try omega)
            · have hge : (n : Int) ≤ i := by omega
              have hend : R = errO (flt (!q) 56) := by
                rw [HFI.out, HQ.out, List.take_of_length_le (by rw [HN.out]; omega), Bool.not_and]
              have HE := Lib.hid hend
              have HB := Lib.hid hbel
              clear hend hbel
              cases q with
              | true =>
                go_wp2_with fail
                go_ret
                exact ⟨by rw [HE.out]; rfl, HB.out⟩
              | false =>
                go_wp2_with fail
                go_ret
                exact ⟨by rw [HE.out]; rfl, HB.out⟩
        · have f2 : decide (65535 < m) = false := decide_eq_false (by omega)
          go_enter Tryz.func129, Tryz.ntmps129
          go_wp2_with fail
          refine (HR0.out _).mono ?_
          rintro e w1 ⟨rfl, rfl⟩
          go_wp2_with fail
          refine (HR2.out _).mono ?_
          rintro e w1 ⟨rfl, rfl⟩
          go_wp2_with fail
          have hfin : R = errO (flt (!true || !slotsOk slots) 56) := by
            rw [HR.out]
            congr 2 <;> simp [f1, f2]
          have HFI := Lib.hid hfin
          clear hfin
          go_loopw [3, 29] (fun ok iv wr => ∃ (i : Nat) (q : Bool), i ≤ n ∧ ok = .bool q ∧ iv = .int .i64 i ∧ Hid (q = (true && slotsOk (slots.take i))) ∧ Below w.heap.size w wr) (fun _ iv _ => n - (intOf iv).toNat)
          case atStart => exact ⟨0, true, by omega, (by first | rfl | rw [decide_eq_false (by omega)] | rw [decide_eq_true (by omega)]), rfl, Lib.hid (by simp [slotsOk]), HBW.out⟩
          case round =>
            obtain ⟨i, q, hi, rfl, rfl, HQ, hbel⟩ := hrel
            by_cases hin : i < n
            · obtain ⟨x, hx⟩ : ∃ x, slots[i]? = some x := ⟨_, List.getElem?_eq_getElem (by rw [HN.out]; exact hin)⟩
              obtain ⟨b, off, rfl, hbl, hc⟩ := HS.out i x hx
              have hcw := (hbel.cell (p := ⟨b, _, none⟩) hbl).trans hc
              have hii : (i : Int) < n := by omega
              have hsu := slotsOk_succ hx
              have HSU := Lib.hid hsu
              have hb8 : -128 ≤ x ∧ x ≤ 127 := HS8.out x (List.mem_of_getElem? hx)
              obtain ⟨hb8a, hb8b⟩ := hb8
              have hcv : IntKind.i64.wrap x = x := by rw [IntKind.wrap_i64]; (try unfold wrap64); omega
              have HB := Lib.hid hbel
              clear hx hc hsu hbel
              cases q with
              | true =>
                go_wp2_with fail
                refine (ranged_any x 1 6 _).mono ?_
                rintro e w3 ⟨rfl, rfl⟩
                go_wp2_with fail
                go_roundw
                case rel => exact ⟨i + 1, !outR 1 6 x, by omega, by go_num, by go_num, Lib.hid (by rw [HSU.out, ← Bool.and_assoc, ← HQ.out, Bool.true_and]), HB.out⟩
                case measure => (simp [intOf]; try omega)
              | false =>
                go_wp2_with fail
                go_roundw
                case rel => exact ⟨i + 1, false, by omega, by go_num, by go_num, Lib.hid (by rw [HSU.out, ← Bool.and_assoc, ← HQ.out, Bool.false_and]), HB.out⟩
                case measure => (simp [intOf]; try omega)
            · have hge : (n : Int) ≤ i := by omega
              have hend : R = errO (flt (!q) 56) := by
                rw [HFI.out, HQ.out, List.take_of_length_le (by rw [HN.out]; omega), Bool.not_and]
              have HE := Lib.hid hend
              have HB := Lib.hid hbel
              clear hend hbel
              cases q with
              | true =>
                go_wp2_with fail
                go_ret
                exact ⟨by rw [HE.out]; rfl, HB.out⟩
              | false =>
                go_wp2_with fail
                go_ret
                exact ⟨by rw [HE.out]; rfl, HB.out⟩
end Go.Proofs.YtabpheanbomibaaGreatDoor
namespace Go.Proofs.YtabpheanbomibaaGreatDoor
open Go.RowKit
set_option linter.unusedVariables false

/-- What the types say of an effect, of a kind. -/
def EffTy (x : Eff) : Prop := ∀ s ∈ x.slots, -128 ≤ s ∧ s ≤ 127
def KndTy (x : Knd) : Prop := ∀ e ∈ x.effs, EffTy e
set_option maxRecDepth 100000 in
set_option maxHeartbeats 2000000 in
theorem checkKnd_any (x : Knd) (TA EA : Option Addr) (tc ec N : Nat) (w : World) (hx : KndSm x) (hN : N ≤ 16777216) (hT : IntsAt w TA x.tags) (hE : EffsAt w EA x.effs) (hty : KndTy x) :
    Calls Tryz.prog 98 #[.agg (kndV x TA EA tc ec), .int .i64 N] w fun e w' => e = .returned (.int .i64 (errO (kndC N x))) ∧ Below w.heap.size w w' := by
  obtain ⟨R, hR⟩ : ∃ R, R = errO (kndC N x) := ⟨_, rfl⟩
  rw [← hR]
  have r1 : outR 0 ((N : Int) - 1) x.name = true → R = 42 := fun h => by rw [hR, kndC_pool h]; rfl
  have r2 : outR 0 ((N : Int) - 1) x.name = false → statBad x = true → R = 56 := fun h h2 => by rw [hR, kndC_stat h h2]; rfl
  have r3 : outR 0 ((N : Int) - 1) x.name = false → statBad x = false → R = errO (orS (firstS (tagC N x.tags) x.tags.length) (orS (flt (decide (8 < x.effs.length)) 56) (firstS (fun i => effC (x.effs.getD i eff0)) x.effs.length))) := fun h h2 => by rw [hR, kndC_tags h h2]
  clear hR
  obtain ⟨nm, co, po, he, tags, effs⟩ := x
  obtain ⟨l1, l2, l3⟩ := hx
  unfold statBad at r2 r3
  simp only [kndV] at l1 l2 l3 hT hE r1 r2 r3 ⊢
  obtain ⟨n, hn⟩ : ∃ n, tags.length = n := ⟨_, rfl⟩
  obtain ⟨m, hm⟩ : ∃ m, effs.length = m := ⟨_, rfl⟩
  obtain ⟨q0, hq0⟩ : ∃ q, outR 0 ((N : Int) - 1) nm = q := ⟨_, rfl⟩
  obtain ⟨q1, hq1⟩ : ∃ q, outR 0 1000000000 co = q := ⟨_, rfl⟩
  obtain ⟨q2, hq2⟩ : ∃ q, outR 0 1000000000 po = q := ⟨_, rfl⟩
  obtain ⟨q3, hq3⟩ : ∃ q, outR 0 1000000000 he = q := ⟨_, rfl⟩
  rw [hn] at l1 r2 r3 ⊢
  rw [hm] at l2 r3 ⊢
  rw [hq0] at r1 r2 r3
  rw [hq1, hq2, hq3] at r2 r3
  have hr0 := ranged_any nm 0 ((N : Int) - 1)
  have hr1 := ranged_any co 0 1000000000
  have hr2 := ranged_any po 0 1000000000
  have hr3 := ranged_any he 0 1000000000
  rw [hq0] at hr0
  rw [hq1] at hr1
  rw [hq2] at hr2
  rw [hq3] at hr3
  have hbw := (Below.refl w.heap.size w).alloc (Nat.le_refl _) (.cells #[.int .i64 nm, .int .i64 co, .int .i64 po, .int .i64 he, .slice TA n tc, .slice EA m ec] 123)
  have hkb := Blk.new w 123 #[.int .i64 nm, .int .i64 co, .int .i64 po, .int .i64 he, .slice TA n tc, .slice EA m ec]
  have HR0 := Lib.hid hr0
  have HR1 := Lib.hid hr1
  have HR2 := Lib.hid hr2
  have HR3 := Lib.hid hr3
  have R1 := Lib.hid r1
  have R2 := Lib.hid r2
  have R3 := Lib.hid r3
  have HT := Lib.hid hT
  have HE := Lib.hid hE
  have HN := Lib.hid hn
  have HM := Lib.hid hm
  have L3 := Lib.hid l3
  have HBW := Lib.hid hbw
  have HKB := Lib.hid hkb
  have HTY := Lib.hid hty
  clear hr0 hr1 hr2 hr3 r1 r2 r3 hT hE hn hm l3 hbw hkb hty hq0 hq1 hq2 hq3
  go_enter Tryz.func98, Tryz.ntmps98
  go_wp2_with fail
  refine (HR0.out _).mono ?_
  rintro e w1 ⟨rfl, rfl⟩
  cases q0 with
  | true =>
    go_wp2_with fail
    go_ret
    have e : R = 42 := by simpa using R1.out
    exact ⟨by rw [e]; rfl, HBW.out⟩
  | false =>
    go_wp2_with fail
    obtain ⟨W, hW⟩ : ∃ W, W = w.alloc (.cells #[.int .i64 nm, .int .i64 co, .int .i64 po, .int .i64 he, .slice TA n tc, .slice EA m ec] 123) := ⟨_, rfl⟩
    rw [← hW]
    have HBW2 := Lib.hid (show Below w.heap.size w W by rw [hW]; exact HBW.out)
    have HKB2 := Lib.hid (show Blk W w.heap.size 123 #[.int .i64 nm, .int .i64 co, .int .i64 po, .int .i64 he, .slice TA n tc, .slice EA m ec] by rw [hW]; exact HKB.out)
    clear HBW HKB hW
    have ix0 : ∀ wx, (Instr.index 228 (.agg #[.int .i64 co, .int .i64 po, .int .i64 he]) (.int .i64 0)).run Tryz.prog wx = .ok (.int .i64 co) wx := fun wx => by kernel_rfl
    have ix1 : ∀ wx, (Instr.index 228 (.agg #[.int .i64 co, .int .i64 po, .int .i64 he]) (.int .i64 1)).run Tryz.prog wx = .ok (.int .i64 po) wx := fun wx => by kernel_rfl
    have ix2 : ∀ wx, (Instr.index 228 (.agg #[.int .i64 co, .int .i64 po, .int .i64 he]) (.int .i64 2)).run Tryz.prog wx = .ok (.int .i64 he) wx := fun wx => by kernel_rfl
    go_loopw [25] (fun iv wr => ∃ i : Nat, i ≤ 3 ∧ iv = .int .i64 i ∧ Hid ((0 < i → q1 = false) ∧ (1 < i → q2 = false) ∧ (2 < i → q3 = false)) ∧ wr = W) (fun iv _ => 3 - (intOf iv).toNat)
    case atStart => exact ⟨0, by omega, rfl, Lib.hid ⟨fun h => absurd h (by omega), fun h => absurd h (by omega), fun h => absurd h (by omega)⟩, rfl⟩
    case round =>
      obtain ⟨i, hi, rfl, HQ, rfl⟩ := hrel
      obtain rfl | rfl | rfl | rfl : i = 0 ∨ i = 1 ∨ i = 2 ∨ i = 3 := by omega
      · go_wp2_with fail
        refine (HR1.out _).mono ?_
        rintro e w1 ⟨rfl, rfl⟩
        cases q1 with
        | true =>
          go_wp2_with fail
          go_ret
          have e : R = 56 := by simpa using R2.out
          exact ⟨by rw [e]; rfl, HBW2.out⟩
        | false =>
          go_wp2_with fail
          go_roundw
          case rel => exact ⟨1, by omega, rfl, Lib.hid ⟨fun _ => by simp, fun h => absurd h (by omega), fun h => absurd h (by omega)⟩, by first | rfl | trivial⟩
          case measure => (simp [intOf]; try omega)
      · go_wp2_with fail
        refine (HR2.out _).mono ?_
        rintro e w1 ⟨rfl, rfl⟩
        have h1 := HQ.out.1 (by omega)
        cases q2 with
        | true =>
          go_wp2_with fail
          go_ret
          have e : R = 56 := by simpa using R2.out
          exact ⟨by rw [e]; rfl, HBW2.out⟩
        | false =>
          go_wp2_with fail
          go_roundw
          case rel => exact ⟨2, by omega, rfl, Lib.hid ⟨fun _ => h1, fun _ => by simp, fun h => absurd h (by omega)⟩, by first | rfl | trivial⟩
          case measure => (simp [intOf]; try omega)
      · go_wp2_with fail
        refine (HR3.out _).mono ?_
        rintro e w1 ⟨rfl, rfl⟩
        have h1 := HQ.out.1 (by omega)
        have h2 := HQ.out.2.1 (by omega)
        cases q3 with
        | true =>
          go_wp2_with fail
          go_ret
          have e : R = 56 := by simpa using R2.out
          exact ⟨by rw [e]; rfl, HBW2.out⟩
        | false =>
          go_wp2_with fail
          go_roundw
          case rel => exact ⟨3, by omega, rfl, Lib.hid ⟨fun _ => h1, fun _ => h2, fun _ => by simp⟩, by first | rfl | trivial⟩
          case measure => (simp [intOf]; try omega)
      · have h1 := HQ.out.1 (by omega)
        have h2 := HQ.out.2.1 (by omega)
        have h3 := HQ.out.2.2 (by omega)
        subst h1 h2 h3
        clear ix0 ix1 ix2
        obtain ⟨x0, x1, x2, x3, x4, x5⟩ := HKB2.out.six.1
        by_cases h16 : (16 : Int) < n
        · go_wp2_with fail
          go_ret
          have e : R = 56 := by
            have h1 := R2.out
            rw [decide_eq_true (by omega)] at h1
            simpa using h1
          exact ⟨by rw [e]; rfl, HBW2.out⟩
        · have h16' : decide (16 < n) = false := decide_eq_false (by omega)
          have e := R3.out
          rw [h16'] at e
          have e := e trivial rfl
          have RT := Lib.hid e
          clear e h16'
          go_wp2_with fail
          go_loopw [39] (fun iv wr => ∃ i : Nat, i ≤ n ∧ iv = .int .i64 i ∧ Hid (∀ j, j < i → tagC N tags j = none) ∧ Below w.heap.size w wr ∧ Blk wr w.heap.size 123 #[.int .i64 nm, .int .i64 co, .int .i64 po, .int .i64 he, .slice TA n tc, .slice EA m ec]) (fun iv _ => n - (intOf iv).toNat)
          case atStart => exact ⟨0, by omega, rfl, Lib.hid (fun j hj => absurd hj (by omega)), HBW2.out, HKB2.out⟩
          case round =>
            clear x0 x1 x2 x3 x4 x5 HQ
            obtain ⟨i, hi, rfl, HG, hbel, hkb⟩ := hrel
            obtain ⟨x0, x1, x2, x3, x4, x5⟩ := hkb.six.1
            by_cases hin : i < n
            · obtain ⟨t, ht⟩ : ∃ t, tags[i]? = some t := ⟨_, List.getElem?_eq_getElem (by rw [HN.out]; exact hin)⟩
              obtain ⟨b, off, rfl, hbl, hc⟩ := HT.out i t ht
              have hcw := (hbel.cell (p := ⟨b, _, none⟩) hbl).trans hc
              have hii : (i : Int) < n := by omega
              obtain ⟨q, hq⟩ : ∃ q, outR 0 ((N : Int) - 1) t = q := ⟨_, rfl⟩
              have hrq := ranged_any t 0 ((N : Int) - 1)
              rw [hq] at hrq
              have HRQ := Lib.hid hrq
              have HTI := Lib.hid ht
              have HQ := Lib.hid hq
              have HB := Lib.hid hbel
              have HKB3 := Lib.hid hkb
              clear hc ht hq hrq hbel hkb
              go_wp2_with fail
              refine (HRQ.out _).mono ?_
              rintro e w1 ⟨rfl, rfl⟩
              cases q with
              | true =>
                have e : R = 42 := by rw [RT.out, orS_some (firstS_some hin HG.out (tagC_pool HTI.out HQ.out))]; rfl
                have HE2 := Lib.hid e
                clear e
                go_wp2_with fail
                go_ret
                exact ⟨by rw [HE2.out]; rfl, HB.out⟩
              | false =>
                by_cases hi0 : i = 0
                · subst hi0
                  have hg := none_succ HG.out (tagC_zero HTI.out HQ.out)
                  have HG2 := Lib.hid hg
                  clear hg
                  go_wp2_with fail
                  exact ⟨⟨1, by omega, rfl, HG2, HB.out, HKB3.out⟩, by simp [intOf]; omega⟩
                · obtain ⟨p, hp⟩ : ∃ p, tags[i - 1]? = some p := ⟨_, List.getElem?_eq_getElem (by rw [HN.out]; omega)⟩
                  obtain ⟨b', off', e, hbl', hc'⟩ := HT.out (i - 1) p hp
                  injection e with e
                  injection e with e1 e2
                  subst e1 e2
                  have hcp := (HB.out.cell (p := ⟨b, _, none⟩) hbl).trans hc'
                  obtain ⟨k, rfl⟩ : ∃ k, i = k + 1 := ⟨i - 1, by omega⟩
                  simp only [Nat.add_sub_cancel] at hcp hp
                  have hii2 : (0 : Int) < ((k + 1 : Nat) : Int) := by omega
                  by_cases htp : t ≤ p
                  · have e : R = 57 := by rw [RT.out, orS_some (firstS_some hin HG.out (tagC_order HTI.out (by omega) (by simpa using hp) HQ.out htp))]; rfl
                    have HE2 := Lib.hid e
                    clear e hp hc'
                    go_wp2_with fail
                    go_ret
                    exact ⟨by rw [HE2.out]; rfl, HB.out⟩
                  · have hg := none_succ HG.out (tagC_fine HTI.out (by simpa using hp) HQ.out (by omega))
                    have HG2 := Lib.hid hg
                    clear hg hp hc'
                    go_wp2_with fail
                    exact ⟨⟨k + 2, by omega, by go_num, HG2, HB.out, HKB3.out⟩, by simp [intOf]; omega⟩
            · have hge : (n : Int) ≤ i := by omega
              have e : R = errO (orS (flt (decide (8 < m)) 56) (firstS (fun i => effC (effs.getD i eff0)) m)) := by rw [RT.out, orS_none (firstS_none fun j hj => HG.out j (by omega))]
              have RE := Lib.hid e
              have HB := Lib.hid hbel
              have HKB3 := Lib.hid hkb
              clear e hbel hkb RT
              by_cases h8 : (8 : Int) < m
              · have e : R = 56 := by rw [RE.out, orS_some (flt_true (decide_eq_true (by omega)))]; rfl
                have HE2 := Lib.hid e
                clear e
                go_wp2_with fail
                go_ret
                exact ⟨by rw [HE2.out]; rfl, HB.out⟩
              · have e : R = errO (firstS (fun i => effC (effs.getD i eff0)) m) := by rw [RE.out, orS_none (flt_false (decide_eq_false (by omega)))]
                have RF := Lib.hid e
                clear e RE
                go_wp2_with fail
                go_loopw [69] (fun iv wr => ∃ i : Nat, i ≤ m ∧ iv = .int .i64 i ∧ Hid (∀ j, j < i → effC (effs.getD j eff0) = none) ∧ Below w.heap.size w wr) (fun iv _ => m - (intOf iv).toNat)
                case atStart => exact ⟨0, by omega, rfl, Lib.hid (fun j hj => absurd hj (by omega)), HB.out⟩
                case round =>
                  clear x0 x1 x2 x3 x4 x5 HG hge hi HKB3 HB
                  obtain ⟨i, hi, rfl, HG, hbel⟩ := hrel
                  by_cases him : i < m
                  · obtain ⟨x, hx⟩ : ∃ x, effs[i]? = some x := ⟨_, List.getElem?_eq_getElem (by rw [HM.out]; exact him)⟩
                    obtain ⟨b, off, rfl, hbl, hxa⟩ := HE.out i x hx
                    obtain ⟨SA, sc, CA, cc, c0, c1, c2, c3, hS, hC⟩ := hxa.below hbel hbl
                    have hba := (Below.refl wr.heap.size wr).alloc (Nat.le_refl _) (.cells #[.int .i64 x.on, .slice SA x.slots.length sc, .slice CA x.code.length cc, .int .i64 x.bound] 125)
                    have hcall := checkEff_any x SA CA sc cc _ (L3.out x (List.mem_of_getElem? hx)) (hS.below hba) (HTY.out x (List.mem_of_getElem? hx))
                    simp only [effV] at hcall
                    have hgd : effs.getD i eff0 = x := getD_at hx
                    obtain ⟨E, hE⟩ : ∃ E, effC x = E := ⟨_, rfl⟩
                    rw [hE] at hcall
                    have hways : E = none ∨ E = some 56 := by rw [← hE]; exact effC_ways x
                    have hEi : effC (effs.getD i eff0) = E := by rw [hgd, hE]
                    have HCA := Lib.hid hcall
                    have HEI := Lib.hid hEi
                    have HBA := Lib.hid (hbel.trans (hba.mono hbel.size))
                    have hii : (i : Int) < m := by omega
                    clear hx hxa hS hC hcall hgd hE hEi hbel hba
                    go_wp2_with fail
                    refine HCA.out.mono ?_
                    rintro e w1 ⟨rfl, hb1⟩
                    have HB1 := Lib.hid (HBA.out.trans (hb1.mono HBA.out.size))
                    clear hb1
                    rcases hways with rfl | rfl
                    · have hg := none_succ HG.out HEI.out
                      have HG2 := Lib.hid hg
                      clear hg
                      simp only [errO, Option.getD_none]
                      go_wp2_with fail
                      go_roundw
                      case rel => exact ⟨i + 1, by omega, by go_num, HG2, HB1.out⟩
                      case measure => (simp [intOf]; try omega)
                    · have e : R = 56 := by rw [RF.out, firstS_some him HG.out HEI.out]; rfl
                      have HE2 := Lib.hid e
                      clear e
                      simp only [errO, Option.getD_some]
                      go_wp2_with fail
                      go_ret
                      exact ⟨by rw [HE2.out]; rfl, HB1.out⟩
                  · have hge : (m : Int) ≤ i := by omega
                    have e : R = 0 := by rw [RF.out, firstS_none fun j hj => HG.out j (by omega)]; rfl
                    have HE2 := Lib.hid e
                    have HB := Lib.hid hbel
                    clear e hbel
                    go_wp2_with fail
                    go_ret
                    exact ⟨by rw [HE2.out]; rfl, HB.out⟩
end Go.Proofs.YtabpheanbomibaaGreatDoor
namespace Go.Proofs.YtabpheanbomibaaGreatDoor
open Go.RowKit
set_option linter.unusedVariables false

set_option maxRecDepth 100000 in
set_option maxHeartbeats 2000000 in
theorem effect19_any (x : Eff) (SA CA : Option Addr) (sc cc : Nat) (w : World) (hx : EffSm x) (hS : SmallsAt w SA x.slots) :
    Calls Tryz.prog 131 #[.agg (effV x SA CA sc cc)] w fun e w' => e = .returned (.int .i64 (errO (effC x))) ∧ Below w.heap.size w w' := by
  obtain ⟨R, hR⟩ : ∃ R, R = errO (effC x) := ⟨_, rfl⟩
  rw [← hR]
  obtain ⟨on, slots, code, bd⟩ := x
  obtain ⟨l1, l2⟩ := hx
  simp only [effV] at l1 l2 hS ⊢
  unfold effC effBad at hR
  simp only at hR
  obtain ⟨n, hn⟩ : ∃ n, slots.length = n := ⟨_, rfl⟩
  obtain ⟨m, hm⟩ : ∃ m, code.length = m := ⟨_, rfl⟩
  rw [hn] at l1 hR ⊢
  rw [hm] at l2 hR ⊢
  have HR := Lib.hid hR
  have HS := Lib.hid hS
  have HN := Lib.hid hn
  have HBW := Lib.hid ((Below.refl w.heap.size w).alloc (Nat.le_refl _) (.cells #[.int .i64 on, .slice SA n sc, .slice CA m cc, .int .i64 bd] 125))
  have hbad : on < 0 ∨ 4 < on ∨ 32 < n ∨ bd < 0 ∨ 4611686018427387904 < bd ∨ 65535 < m → R = 56 := by
    intro h
    rw [hR, flt_true]
    · rfl
    · unfold outR
      simp only [Bool.or_eq_true, decide_eq_true_eq]
      omega
  have hgood : ¬(on < 0 ∨ 4 < on ∨ 32 < n ∨ bd < 0 ∨ 4611686018427387904 < bd ∨ 65535 < m) → R = errO (flt (!slotsOk slots) 56) := by
    intro h
    rw [hR]
    congr 2
    have e : (outR 0 4 on || decide (32 < n) || outR 0 4611686018427387904 bd || decide (65535 < m)) = false := by
      unfold outR
      simp only [Bool.or_eq_false_iff, decide_eq_false_iff_not]
      omega
    rw [e, Bool.false_or]
  have HBAD := Lib.hid hbad
  have HGOOD := Lib.hid hgood
  clear hR hS hn hm hbad hgood
  by_cases hb : on < 0 ∨ 4 < on ∨ 32 < n ∨ bd < 0 ∨ 4611686018427387904 < bd ∨ 65535 < m
  · have e := HBAD.out hb
    have HE := Lib.hid e
    clear e HBAD HGOOD
    go_enter Tryz.func131, Tryz.ntmps131
    go_wp2_with fail
    all_goals first | (exfalso; omega) | (go_ret; exact ⟨by rw [HE.out]; rfl, HBW.out⟩)
  · have e := HGOOD.out hb
    have HE := Lib.hid e
    have g1 : 0 ≤ on := by omega
    have g2 : on ≤ 4 := by omega
    have g3 : (n : Int) ≤ 32 := by omega
    have g4 : 0 ≤ bd := by omega
    have g5 : bd ≤ 4611686018427387904 := by omega
    have g6 : (m : Int) ≤ 65535 := by omega
    have HKB := Lib.hid (Blk.new w 125 #[.int .i64 on, .slice SA n sc, .slice CA m cc, .int .i64 bd])
    clear e HBAD HGOOD hb HR
    go_enter Tryz.func131, Tryz.ntmps131
    go_wp2_with fail
    go_loopw [3] (fun iv wr => ∃ i : Nat, i ≤ n ∧ iv = .int .i64 i ∧ Hid (slotsOk (slots.take i) = true) ∧ Below w.heap.size w wr ∧ Blk wr w.heap.size 125 #[.int .i64 on, .slice SA n sc, .slice CA m cc, .int .i64 bd]) (fun iv _ => n - (intOf iv).toNat)
    case atStart => exact ⟨0, by omega, rfl, Lib.hid (by simp [slotsOk]), HBW.out, HKB.out⟩
    case round =>
      obtain ⟨i, hi, rfl, HQ, hbel, hkb⟩ := hrel
      obtain ⟨x0, x1, x2, x3, _, _, _, _⟩ := hkb.four
      by_cases hin : i < n
      · obtain ⟨x, hx⟩ : ∃ x, slots[i]? = some x := ⟨_, List.getElem?_eq_getElem (by rw [HN.out]; exact hin)⟩
        obtain ⟨b, off, rfl, hbl, hc⟩ := HS.out i x hx
        have hcw := (hbel.cell (p := ⟨b, _, none⟩) hbl).trans hc
        have hii : (i : Int) < n := by omega
        have HX := Lib.hid hx
        have HB := Lib.hid hbel
        have HKB2 := Lib.hid hkb
        clear hx hc hbel hkb HKB HBW
        by_cases hbx : x < 1 ∨ 6 < x
        · have e : R = 56 := by
            rw [HE.out, slotsOk_bad HX.out (by unfold outR; simp only [Bool.or_eq_true, decide_eq_true_eq]; exact hbx)]
            rfl
          have HE2 := Lib.hid e
          clear e
          go_wp2_with fail
          all_goals first | (exfalso; omega) | (go_ret; exact ⟨by rw [HE2.out]; rfl, HB.out⟩)
        · have h1 : 1 ≤ x := by omega
          have h2 : x ≤ 6 := by omega
          have hs : slotsOk (slots.take (i + 1)) = true := by
            rw [slotsOk_succ HX.out, HQ.out]
            have e : outR 1 6 x = false := by unfold outR; simp only [Bool.or_eq_false_iff, decide_eq_false_iff_not]; omega
            rw [e]
            rfl
          have HS2 := Lib.hid hs
          clear hs hbx
          go_wp2_with fail
          go_roundw
          case rel => exact ⟨i + 1, by omega, by go_num, HS2, HB.out, HKB2.out⟩
          case measure => (simp [intOf]; try omega)
      · have hge : (n : Int) ≤ i := by omega
        have hq := HQ.out
        rw [List.take_of_length_le (by rw [HN.out]; omega)] at hq
        have e : R = 0 := by rw [HE.out, hq]; rfl
        have HE2 := Lib.hid e
        have HB := Lib.hid hbel
        clear e hq hbel hkb
        go_wp2_with fail
        go_ret
        exact ⟨by rw [HE2.out]; rfl, HB.out⟩
end Go.Proofs.YtabpheanbomibaaGreatDoor
namespace Go.Proofs.YtabpheanbomibaaGreatDoor
open Go.RowKit
set_option linter.unusedVariables false

theorem outR_true {lo hi x : Int} (h : x < lo ∨ hi < x) : outR lo hi x = true := by unfold outR; simp only [Bool.or_eq_true, decide_eq_true_eq]; exact h
theorem outR_false {lo hi x : Int} (h : lo ≤ x) (h2 : x ≤ hi) : outR lo hi x = false := by unfold outR; simp only [Bool.or_eq_false_iff, decide_eq_false_iff_not]; omega
set_option maxRecDepth 100000 in
set_option maxHeartbeats 2000000 in
theorem kind19_any (x : Knd) (TA EA : Option Addr) (tc ec N : Nat) (w : World) (hx : KndSm x) (hN : N ≤ 16777216) (hT : IntsAt w TA x.tags) (hE : EffsAt w EA x.effs) :
    Calls Tryz.prog 101 #[.agg (kndV x TA EA tc ec), .int .i64 N] w fun e w' => e = .returned (.int .i64 (errO (kndC N x))) ∧ Below w.heap.size w w' := by
  obtain ⟨R, hR⟩ : ∃ R, R = errO (kndC N x) := ⟨_, rfl⟩
  rw [← hR]
  have r1 : x.name < 0 ∨ (N : Int) ≤ x.name → R = 42 := fun h => by rw [hR, kndC_pool (outR_true (by omega))]; rfl
  have r2 : ¬(x.name < 0 ∨ (N : Int) ≤ x.name) → (x.cost < 0 ∨ 1000000000 < x.cost ∨ x.power < 0 ∨ 1000000000 < x.power ∨ x.health < 0 ∨ 1000000000 < x.health ∨ 16 < x.tags.length) → R = 56 := fun h h2 => by
    rw [hR, kndC_stat (outR_false (by omega) (by omega)) (by unfold statBad outR; simp only [Bool.or_eq_true, decide_eq_true_eq]; omega)]
    rfl
  have r3 : ¬(x.name < 0 ∨ (N : Int) ≤ x.name) → ¬(x.cost < 0 ∨ 1000000000 < x.cost ∨ x.power < 0 ∨ 1000000000 < x.power ∨ x.health < 0 ∨ 1000000000 < x.health ∨ 16 < x.tags.length) → R = errO (orS (firstS (tagC N x.tags) x.tags.length) (orS (flt (decide (8 < x.effs.length)) 56) (firstS (fun i => effC (x.effs.getD i eff0)) x.effs.length))) := fun h h2 => by
    rw [hR, kndC_tags (outR_false (by omega) (by omega)) (by unfold statBad outR; simp only [Bool.or_eq_false_iff, decide_eq_false_iff_not]; omega)]
  clear hR
  obtain ⟨nm, co, po, he, tags, effs⟩ := x
  obtain ⟨l1, l2, l3⟩ := hx
  simp only [kndV] at l1 l2 l3 hT hE r1 r2 r3 ⊢
  obtain ⟨n, hn⟩ : ∃ n, tags.length = n := ⟨_, rfl⟩
  obtain ⟨m, hm⟩ : ∃ m, effs.length = m := ⟨_, rfl⟩
  rw [hn] at l1 r2 r3 ⊢
  rw [hm] at l2 r3 ⊢
  have hbw := (Below.refl w.heap.size w).alloc (Nat.le_refl _) (.cells #[.int .i64 nm, .int .i64 co, .int .i64 po, .int .i64 he, .slice TA n tc, .slice EA m ec] 123)
  have hkb := Blk.new w 123 #[.int .i64 nm, .int .i64 co, .int .i64 po, .int .i64 he, .slice TA n tc, .slice EA m ec]
  have R1 := Lib.hid r1
  have R2 := Lib.hid r2
  have R3 := Lib.hid r3
  have HT := Lib.hid hT
  have HE := Lib.hid hE
  have HN := Lib.hid hn
  have HM := Lib.hid hm
  have L3 := Lib.hid l3
  have HBW := Lib.hid hbw
  have HKB := Lib.hid hkb
  clear r1 r2 r3 hT hE hn hm l3 hbw hkb
  by_cases hp : nm < 0 ∨ (N : Int) ≤ nm
  · have HR := Lib.hid (R1.out hp)
    go_enter Tryz.func101, Tryz.ntmps101
    go_wp2_with fail
    all_goals first | (exfalso; omega) | (go_ret; exact ⟨by rw [HR.out]; rfl, HBW.out⟩)
  · by_cases hs : co < 0 ∨ 1000000000 < co ∨ po < 0 ∨ 1000000000 < po ∨ he < 0 ∨ 1000000000 < he ∨ 16 < n
    · have HR := Lib.hid (R2.out hp hs)
      have g1 : 0 ≤ nm := by omega
      have g2 : nm < N := by omega
      have g9 : (co < 0 ∨ 1000000000 < co ∨ po < 0 ∨ 1000000000 < po ∨ he < 0 ∨ 1000000000 < he) ∨ (16 : Int) < n := by omega
      clear hp hs
      rcases g9 with g9 | g9
      · go_enter Tryz.func101, Tryz.ntmps101
        go_wp2_with fail
        all_goals (try (exfalso; omega))
        all_goals (go_ret; exact ⟨by rw [HR.out]; rfl, HBW.out⟩)
      · go_enter Tryz.func101, Tryz.ntmps101
        go_wp2_with fail
        all_goals (try (exfalso; omega))
        all_goals (go_ret; exact ⟨by rw [HR.out]; rfl, HBW.out⟩)
    · have RT := Lib.hid (R3.out hp hs)
      have g1 : 0 ≤ nm := by omega
      have g2 : nm < N := by omega
      have g3 : 0 ≤ co := by omega
      have g4 : co ≤ 1000000000 := by omega
      have g5 : 0 ≤ po := by omega
      have g6 : po ≤ 1000000000 := by omega
      have g7 : 0 ≤ he := by omega
      have g8 : he ≤ 1000000000 := by omega
      have g9 : (n : Int) ≤ 16 := by omega
      clear hp hs R1 R2 R3
      go_enter Tryz.func101, Tryz.ntmps101
      go_wp2_with fail
      all_goals (try (exfalso; omega))
      clear g1 g2 g3 g4 g5 g6 g7 g8 g9
      go_loopw [5] (fun iv wr => ∃ i : Nat, i ≤ n ∧ iv = .int .i64 i ∧ Hid (∀ j, j < i → tagC N tags j = none) ∧ Below w.heap.size w wr ∧ Blk wr w.heap.size 123 #[.int .i64 nm, .int .i64 co, .int .i64 po, .int .i64 he, .slice TA n tc, .slice EA m ec]) (fun iv _ => n - (intOf iv).toNat)
      case atStart => exact ⟨0, by omega, rfl, Lib.hid (fun j hj => absurd hj (by omega)), HBW.out, HKB.out⟩
      case round =>
        obtain ⟨i, hi, rfl, HG, hbel, hkb⟩ := hrel
        obtain ⟨x0, x1, x2, x3, x4, x5⟩ := hkb.six.1
        by_cases hin : i < n
        · obtain ⟨t, ht⟩ : ∃ t, tags[i]? = some t := ⟨_, List.getElem?_eq_getElem (by rw [HN.out]; exact hin)⟩
          obtain ⟨b, off, rfl, hbl, hc⟩ := HT.out i t ht
          have hcw := (hbel.cell (p := ⟨b, _, none⟩) hbl).trans hc
          have hii : (i : Int) < n := by omega
          have HTI := Lib.hid ht
          have HB := Lib.hid hbel
          have HKB3 := Lib.hid hkb
          clear hc ht hbel hkb HKB HBW
          by_cases hq : t < 0 ∨ (N : Int) ≤ t
          · have e : R = 42 := by rw [RT.out, orS_some (firstS_some hin HG.out (tagC_pool HTI.out (outR_true (by omega))))]; rfl
            have HE2 := Lib.hid e
            clear e
            go_wp2_with fail
            all_goals first | (exfalso; omega) | (go_ret; exact ⟨by rw [HE2.out]; rfl, HB.out⟩)
          · have hq2 : outR 0 ((N : Int) - 1) t = false := outR_false (by omega) (by omega)
            have h1 : 0 ≤ t := by omega
            have h2 : t < N := by omega
            have HQ := Lib.hid hq2
            clear hq hq2
            by_cases hi0 : i = 0
            · subst hi0
              have hg := none_succ HG.out (tagC_zero HTI.out HQ.out)
              have HG2 := Lib.hid hg
              rw [Nat.add_zero] at hcw
              clear hg
              go_wp2_with fail
              all_goals (try (exfalso; omega))
              go_quiet (fail)
              go_wp2_with fail
              go_roundw
              case rel => exact ⟨1, by omega, by first | rfl | go_num, HG2, bdn HB.out _, HKB3.out.drewN _⟩
              case measure => (simp [intOf]; try omega)
            · obtain ⟨p, hp⟩ : ∃ p, tags[i - 1]? = some p := ⟨_, List.getElem?_eq_getElem (by rw [HN.out]; omega)⟩
              obtain ⟨b', off', e, hbl', hc'⟩ := HT.out (i - 1) p hp
              injection e with e
              injection e with e1 e2
              subst e1 e2
              have hcp := (HB.out.cell (p := ⟨b, _, none⟩) hbl).trans hc'
              obtain ⟨k, rfl⟩ : ∃ k, i = k + 1 := ⟨i - 1, by omega⟩
              simp only [Nat.add_sub_cancel] at hcp hp
              have hii2 : (0 : Int) < ((k + 1 : Nat) : Int) := by omega
              by_cases htp : t ≤ p
              · have e : R = 57 := by rw [RT.out, orS_some (firstS_some hin HG.out (tagC_order HTI.out (by omega) (by simpa using hp) HQ.out htp))]; rfl
                have HE2 := Lib.hid e
                clear e hp hc'
                go_wp2_with fail
                all_goals (try (exfalso; omega))
                go_quiet (fail)
                go_wp2_with fail
                go_ret
                exact ⟨by rw [HE2.out]; rfl, bdn HB.out _⟩
              · have hg := none_succ HG.out (tagC_fine HTI.out (by simpa using hp) HQ.out (by omega))
                have HG2 := Lib.hid hg
                clear hg hp hc'
                go_wp2_with fail
                all_goals (try (exfalso; omega))
                go_quiet (fail)
                go_wp2_with fail
                go_roundw
                case rel => exact ⟨k + 2, by omega, by go_num, HG2, bdn HB.out _, HKB3.out.drewN _⟩
                case measure => (simp [intOf]; try omega)
        · have hge : (n : Int) ≤ i := by omega
          have e : R = errO (orS (flt (decide (8 < m)) 56) (firstS (fun i => effC (effs.getD i eff0)) m)) := by rw [RT.out, orS_none (firstS_none fun j hj => HG.out j (by omega))]
          have RE := Lib.hid e
          have HB := Lib.hid hbel
          have HKB3 := Lib.hid hkb
          clear e hbel hkb RT HKB HBW
          by_cases h8 : (8 : Int) < m
          · have e : R = 56 := by rw [RE.out, orS_some (flt_true (decide_eq_true (by omega)))]; rfl
            have HE2 := Lib.hid e
            clear e
            go_wp2_with fail
            go_ret
            exact ⟨by rw [HE2.out]; rfl, HB.out⟩
          · have e : R = errO (firstS (fun i => effC (effs.getD i eff0)) m) := by rw [RE.out, orS_none (flt_false (decide_eq_false (by omega)))]
            have RF := Lib.hid e
            clear e RE
            go_wp2_with fail
            go_loopw [6] (fun iv wr => ∃ i : Nat, i ≤ m ∧ iv = .int .i64 i ∧ Hid (∀ j, j < i → effC (effs.getD j eff0) = none) ∧ Below w.heap.size w wr ∧ Blk wr w.heap.size 123 #[.int .i64 nm, .int .i64 co, .int .i64 po, .int .i64 he, .slice TA n tc, .slice EA m ec]) (fun iv _ => m - (intOf iv).toNat)
            case atStart => exact ⟨0, by omega, rfl, Lib.hid (fun j hj => absurd hj (by omega)), HB.out, HKB3.out⟩
            case round =>
              clear x0 x1 x2 x3 x4 x5 HG hge hi HKB3 HB
              obtain ⟨i, hi, rfl, HG, hbel, hkb⟩ := hrel
              obtain ⟨x0, x1, x2, x3, x4, x5⟩ := hkb.six.1
              by_cases him : i < m
              · obtain ⟨x, hx⟩ : ∃ x, effs[i]? = some x := ⟨_, List.getElem?_eq_getElem (by rw [HM.out]; exact him)⟩
                obtain ⟨b, off, rfl, hbl, hxa⟩ := HE.out i x hx
                obtain ⟨SA, sc, CA, cc, c0, c1, c2, c3, hS, hC⟩ := hxa.below hbel hbl
                have hcall := effect19_any x SA CA sc cc wr (L3.out x (List.mem_of_getElem? hx)) hS
                simp only [effV] at hcall
                have hgd : effs.getD i eff0 = x := getD_at hx
                obtain ⟨E, hE⟩ : ∃ E, effC x = E := ⟨_, rfl⟩
                rw [hE] at hcall
                have hways : E = none ∨ E = some 56 := by rw [← hE]; exact effC_ways x
                have hEi : effC (effs.getD i eff0) = E := by rw [hgd, hE]
                have HCA := Lib.hid hcall
                have HEI := Lib.hid hEi
                have HBA := Lib.hid hbel
                have HKB4 := Lib.hid hkb
                have hii : (i : Int) < m := by omega
                clear hx hxa hS hC hcall hgd hE hEi hbel hkb
                go_wp2_with fail
                refine HCA.out.mono ?_
                rintro e w1 ⟨rfl, hb1⟩
                have HB1 := Lib.hid (HBA.out.trans (hb1.mono HBA.out.size))
                have HKB5 := Lib.hid (HKB4.out.below hb1 HKB4.out.lt)
                clear hb1
                rcases hways with rfl | rfl
                · have hg := none_succ HG.out HEI.out
                  have HG2 := Lib.hid hg
                  clear hg
                  simp only [errO, Option.getD_none]
                  go_wp2_with fail
                  go_roundw
                  case rel => exact ⟨i + 1, by omega, by go_num, HG2, HB1.out, HKB5.out⟩
                  case measure => (simp [intOf]; try omega)
                · have e : R = 56 := by rw [RF.out, firstS_some him HG.out HEI.out]; rfl
                  have HE2 := Lib.hid e
                  clear e
                  simp only [errO, Option.getD_some]
                  go_wp2_with fail
                  go_ret
                  exact ⟨by rw [HE2.out]; rfl, HB1.out⟩
              · have hge : (m : Int) ≤ i := by omega
                have e : R = 0 := by rw [RF.out, firstS_none fun j hj => HG.out j (by omega)]; rfl
                have HE2 := Lib.hid e
                have HB := Lib.hid hbel
                clear e hbel hkb
                go_wp2_with fail
                go_ret
                exact ⟨by rw [HE2.out]; rfl, HB.out⟩
end Go.Proofs.YtabpheanbomibaaGreatDoor
namespace Go.Proofs.YtabpheanbomibaaGreatDoor
open Go.RowKit
set_option linter.unusedVariables false

def ltB (a b : ByteArray) : Bool := Op.bytesLess a.toList b.toList
theorem bytesLess_total : ∀ (x y : List UInt8), (Op.bytesLess x y || x == y) = !Op.bytesLess y x
  | [], [] => by simp [Op.bytesLess]
  | _ :: _, [] => by simp [Op.bytesLess]
  | [], _ :: _ => by simp [Op.bytesLess]
  | a :: x, b :: y => by
    have ih := bytesLess_total x y
    simp only [Op.bytesLess]
    rcases Nat.lt_trichotomy a.toNat b.toNat with h | h | h
    · have h1 : a < b := h
      have h2 : ¬ b < a := fun h' => Nat.lt_asymm h h'
      have h3 : (b == a) = false := by simp only [beq_eq_false_iff_ne]; intro e; rw [e] at h; exact Nat.lt_irrefl _ h
      simp [h1, h2, h3]
    · have h0 : a = b := UInt8.toNat_inj.1 h
      subst h0
      have h1 : ¬ a < a := Nat.lt_irrefl _
      simp only [decide_eq_false h1, Bool.false_or, beq_self_eq_true, Bool.true_and]
      rw [← ih]
      simp
    · have h1 : ¬ a < b := fun h' => Nat.lt_asymm h h'
      have h2 : b < a := h
      have h3 : (a == b) = false := by simp only [beq_eq_false_iff_ne]; intro e; rw [e] at h; exact Nat.lt_irrefl _ h
      simp [h1, h2, h3]
theorem bytesLess_at : ∀ (i : Nat) (x y : List UInt8) (a b : UInt8), (∀ j, j < i → x[j]? = y[j]?) → x[i]? = some a → y[i]? = some b → a ≠ b → Op.bytesLess x y = decide (a < b)
  | 0, [], _, a, b, _, ha, _, _ => by simp at ha
  | 0, _ :: _, [], a, b, _, _, hb, _ => by simp at hb
  | 0, c :: x, d :: y, a, b, _, ha, hb, hne => by
    simp only [List.getElem?_cons_zero, Option.some.injEq] at ha hb
    subst ha hb
    have h : (c == d) = false := by simpa using hne
    simp [Op.bytesLess, h]
  | i + 1, [], _, a, b, _, ha, _, _ => by simp at ha
  | i + 1, _ :: _, [], a, b, _, _, hb, _ => by simp at hb
  | i + 1, c :: x, d :: y, a, b, h, ha, hb, hne => by
    have h0 := h 0 (by omega)
    simp only [List.getElem?_cons_zero, Option.some.injEq] at h0
    subst h0
    have ih := bytesLess_at i x y a b (fun j hj => by have := h (j + 1) (by omega); simpa using this) (by simpa using ha) (by simpa using hb) hne
    have h1 : ¬ c < c := Nat.lt_irrefl _
    simp only [Op.bytesLess, decide_eq_false h1, Bool.false_or, beq_self_eq_true, Bool.true_and]
    exact ih
theorem bytesLess_end : ∀ (i : Nat) (x y : List UInt8), (∀ j, j < i → x[j]? = y[j]?) → i ≤ x.length → i ≤ y.length → (i = x.length ∨ i = y.length) → Op.bytesLess x y = decide (x.length < y.length)
  | 0, [], [], _, _, _, _ => by simp [Op.bytesLess]
  | 0, [], _ :: _, _, _, _, _ => by simp [Op.bytesLess]
  | 0, _ :: _, [], _, _, _, _ => by simp [Op.bytesLess]
  | 0, _ :: _, _ :: _, _, _, _, h => by simp at h
  | i + 1, [], _, _, h, _, _ => by simp at h
  | i + 1, _ :: _, [], _, _, h, _ => by simp at h
  | i + 1, c :: x, d :: y, h, h1, h2, h3 => by
    have h0 := h 0 (by omega)
    simp only [List.getElem?_cons_zero, Option.some.injEq] at h0
    subst h0
    simp only [List.length_cons] at h1 h2 h3
    have ih := bytesLess_end i x y (fun j hj => by have := h (j + 1) (by omega); simpa using this) (by omega) (by omega) (by omega)
    have hc : ¬ c < c := Nat.lt_irrefl _
    simp only [Op.bytesLess, decide_eq_false hc, Bool.false_or, beq_self_eq_true, Bool.true_and, ih, List.length_cons, Nat.add_lt_add_iff_right]
theorem toList_len (a : ByteArray) : a.toList.length = a.size := by
  rw [Lib.toList_data]
  rfl
theorem run_index_at {a : ByteArray} {i : Nat} {x : UInt8} (h : a.toList[i]? = some x) : ∀ wx, (Instr.index 9 (.string a) (.int .i64 (i : Int))).run Tryz.prog wx = .ok (.int .u8 (x.toNat : Int)) wx := by
  intro wx
  have hi := (List.getElem?_eq_some_iff.1 h).1
  rw [toList_len] at hi
  rw [Lib.toList_data, Array.getElem?_toList] at h
  have hx := (Array.getElem?_eq_some_iff.1 h).2
  rw [run_index_string wx 9 a .i64 i Tryz.underlying9, dif_pos ⟨by omega, by omega⟩]
  have e : a[((i : Int)).toNat]'(by omega) = x := by
    simp only [Int.toNat_natCast]
    exact hx
  rw [e]
set_option maxRecDepth 100000 in
set_option maxHeartbeats 2000000 in
theorem below19_any (a b : ByteArray) (w : World) (ha : a.size ≤ 16777216) (hb : b.size ≤ 16777216) :
    Calls Tryz.prog 130 #[.string a, .string b] w fun e w' => e = .returned (.bool (ltB a b)) ∧ ∃ q, w' = w.drewN q := by
  obtain ⟨R, hR⟩ : ∃ R, R = ltB a b := ⟨_, rfl⟩
  rw [← hR]
  obtain ⟨n, hn⟩ : ∃ n, a.size = n := ⟨_, rfl⟩
  obtain ⟨m, hm⟩ : ∃ m, b.size = m := ⟨_, rfl⟩
  have HR := Lib.hid hR
  clear hR
  go_enter Tryz.func130, Tryz.ntmps130
  go_wp2_with fail
  go_loopw [5] (fun iv wr => ∃ i : Nat, i ≤ n ∧ i ≤ m ∧ iv = .int .i64 i ∧ Hid (∀ j, j < i → a.toList[j]? = b.toList[j]?) ∧ ∃ q, wr = w.drewN q) (fun iv _ => n - (intOf iv).toNat)
  case atStart => exact ⟨0, by omega, by omega, rfl, Lib.hid (fun j hj => absurd hj (by omega)), 0, rfl⟩
  case round =>
    obtain ⟨i, hi, hi2, rfl, HG, q0, rfl⟩ := hrel
    by_cases hin : i < n
    · by_cases him : i < m
      · have h1 : (i : Int) < n := by omega
        have h2 : (i : Int) < m := by omega
        obtain ⟨x, hx⟩ : ∃ x, a.toList[i]? = some x := ⟨_, List.getElem?_eq_getElem (by rw [toList_len, hn]; exact hin)⟩
        obtain ⟨y, hy⟩ : ∃ y, b.toList[i]? = some y := ⟨_, List.getElem?_eq_getElem (by rw [toList_len, hm]; exact him)⟩
        have ia := run_index_at (a := a) (i := i) (x := x) hx
        have ib := run_index_at (a := b) (i := i) (x := y) hy
        obtain ⟨xv, hxv⟩ : ∃ v : Int, v = (x.toNat : Int) := ⟨_, rfl⟩
        obtain ⟨yv, hyv⟩ : ∃ v : Int, v = (y.toNat : Int) := ⟨_, rfl⟩
        rw [← hxv] at ia
        rw [← hyv] at ib
        have HX := Lib.hid hx
        have HY := Lib.hid hy
        have HXV := Lib.hid hxv
        have HYV := Lib.hid hyv
        clear hx hy hxv hyv
        by_cases hxy : xv = yv
        · have hg : ∀ j, j < i + 1 → a.toList[j]? = b.toList[j]? := fun j hj => by
            by_cases hji : j = i
            · have e : x.toNat = y.toNat := by have h3 := HXV.out; have h4 := HYV.out; omega
              rw [hji, HX.out, HY.out, UInt8.toNat_inj.1 e]
            · exact HG.out j (by omega)
          have HG2 := Lib.hid hg
          subst hxy
          clear hg
          go_wp2_with fail
          go_quiet (fail)
          go_wp2_with fail
          go_roundw
          case rel => exact ⟨i + 1, by omega, by omega, by go_num, HG2, _, rfl⟩
          case measure => (simp [intOf]; try omega)
        · have hne : x ≠ y := fun e => hxy (by rw [HXV.out, HYV.out, e])
          have e : R = decide (xv < yv) := by
            rw [HR.out]
            unfold ltB
            rw [bytesLess_at i _ _ x y HG.out HX.out HY.out hne]
            congr 1
            rw [HXV.out, HYV.out]
            exact propext ⟨fun h => by have h2 : x.toNat < y.toNat := h; omega, fun h => show x.toNat < y.toNat by omega⟩
          have HE := Lib.hid e
          clear e hne
          go_wp2_with fail
          go_quiet (fail)
          go_wp2_with fail
          go_quiet (fail)
          go_wp2_with fail
          go_ret
          exact ⟨by rw [HE.out]; rfl, _, by rw [World.drewN_drewN, World.drewN_drewN]⟩
      · have hge : (m : Int) ≤ i := by omega
        have h1 : (i : Int) < n := by omega
        have e : R = decide (n < m) := by
          rw [HR.out]
          unfold ltB
          rw [bytesLess_end i _ _ HG.out (by rw [toList_len]; omega) (by rw [toList_len]; omega) (.inr (by rw [toList_len]; omega)), toList_len, toList_len, hn, hm]
        have HE := Lib.hid e
        clear e
        go_wp2_with fail
        go_ret
        exact ⟨by rw [HE.out]; rfl, _, rfl⟩
    · have hge : (n : Int) ≤ i := by omega
      have e : R = decide (n < m) := by
        rw [HR.out]
        unfold ltB
        rw [bytesLess_end i _ _ HG.out (by rw [toList_len]; omega) (by rw [toList_len]; omega) (.inl (by rw [toList_len]; omega)), toList_len, toList_len, hn, hm]
      have HE := Lib.hid e
      clear e
      go_wp2_with fail
      go_ret
      exact ⟨by rw [HE.out]; rfl, _, rfl⟩
end Go.Proofs.YtabpheanbomibaaGreatDoor
namespace Go.Proofs.YtabpheanbomibaaGreatDoor
open Go.RowKit
set_option linter.unusedVariables false

theorem poolsC_lim {p : Pck} (h : p.cards < 1 ∨ 256 < p.cards ∨ 4096 < p.ints.length) : poolsC ltB p = some 56 := by
  unfold poolsC
  rw [orS_some (flt_true (by unfold outR; simp only [Bool.or_eq_true, decide_eq_true_eq]; omega))]
theorem poolsC_ints {p : Pck} (h : ¬(p.cards < 1 ∨ 256 < p.cards ∨ 4096 < p.ints.length)) : poolsC ltB p = orS (firstS (intC p.ints) p.ints.length) (orS (flt (decide (4096 < p.texts.length)) 56) (firstS (textC ltB p.texts) p.texts.length)) := by
  unfold poolsC
  rw [orS_none (flt_false (by unfold outR; simp only [Bool.or_eq_false_iff, decide_eq_false_iff_not]; omega))]
theorem intC_zero (l : List Int) : intC l 0 = none := rfl
theorem intC_order {l : List Int} {i : Nat} {t p : Int} (h : l[i + 1]? = some t) (hp : l[i]? = some p) (ht : t ≤ p) : intC l (i + 1) = some 57 := by
  unfold intC
  rw [getD_at h, Nat.add_sub_cancel, getD_at hp, flt_true (by simp [ht])]
theorem intC_fine {l : List Int} {i : Nat} {t p : Int} (h : l[i + 1]? = some t) (hp : l[i]? = some p) (ht : p < t) : intC l (i + 1) = none := by
  unfold intC
  rw [getD_at h, Nat.add_sub_cancel, getD_at hp, flt_false (by rw [decide_eq_false (p := t ≤ p) (by omega)]; simp)]
theorem textC_long {l : List ByteArray} {i : Nat} {t : ByteArray} (h : l[i]? = some t) (ht : 64 < t.size) : textC ltB l i = some 56 := by
  unfold textC
  rw [getD_at h, orS_some (flt_true (decide_eq_true ht))]
theorem textC_zero {l : List ByteArray} {t : ByteArray} (h : l[0]? = some t) (ht : ¬ 64 < t.size) : textC ltB l 0 = none := by
  unfold textC
  rw [getD_at h, orS_none (flt_false (decide_eq_false ht))]
  rfl
theorem textC_next {l : List ByteArray} {i : Nat} {t p : ByteArray} (h : l[i + 1]? = some t) (hp : l[i]? = some p) (ht : ¬ 64 < t.size) : textC ltB l (i + 1) = flt (!ltB p t) 57 := by
  unfold textC
  rw [getD_at h, Nat.add_sub_cancel, getD_at hp, orS_none (flt_false (decide_eq_false ht))]
  simp
theorem ltB_not (a b : ByteArray) : (Op.bytesLess a.toList b.toList || a.toList == b.toList) = !ltB b a := bytesLess_total _ _
set_option maxRecDepth 100000 in
set_option maxHeartbeats 2000000 in
theorem checkPools_any (p : Pck) (IA TA KA : Option Addr) (ic tc kc : Nat) (w : World) (hp : PckAt w IA TA KA p) (hs : PckSm p) :
    Calls Tryz.prog 97 #[.agg (pckV p IA TA KA ic tc kc)] w fun e w' => e = .returned (.int .i64 (errO (poolsC ltB p))) ∧ Below w.heap.size w w' := by
  obtain ⟨R, hR⟩ : ∃ R, R = errO (poolsC ltB p) := ⟨_, rfl⟩
  rw [← hR]
  have r1 : outR 1 256 p.cards = true → R = 56 := fun h => by rw [hR, poolsC_lim (by unfold outR at h; simp only [Bool.or_eq_true, decide_eq_true_eq] at h; omega)]; rfl
  have r2 : 4096 < p.ints.length → R = 56 := fun h => by rw [hR, poolsC_lim (by omega)]; rfl
  have r3 : outR 1 256 p.cards = false → ¬ 4096 < p.ints.length → R = errO (orS (firstS (intC p.ints) p.ints.length) (orS (flt (decide (4096 < p.texts.length)) 56) (firstS (textC ltB p.texts) p.texts.length))) := fun h h2 => by
    rw [hR, poolsC_ints (by unfold outR at h; simp only [Bool.or_eq_false_iff, decide_eq_false_iff_not] at h; omega)]
  clear hR
  obtain ⟨cards, ints, texts, kinds⟩ := p
  obtain ⟨h1, h2, h3⟩ := hp
  obtain ⟨l1, l2, l3, l4, l5⟩ := hs
  simp only [pckV] at h1 h2 h3 l1 l2 l3 l4 l5 r1 r2 r3 ⊢
  obtain ⟨ni, hni⟩ : ∃ n, ints.length = n := ⟨_, rfl⟩
  obtain ⟨nt, hnt⟩ : ∃ n, texts.length = n := ⟨_, rfl⟩
  obtain ⟨nk, hnk⟩ : ∃ n, kinds.length = n := ⟨_, rfl⟩
  obtain ⟨q0, hq0⟩ : ∃ q, outR 1 256 cards = q := ⟨_, rfl⟩
  rw [hni] at l1 r2 r3 ⊢
  rw [hnt] at l2 r3 ⊢
  rw [hnk] at l4 ⊢
  rw [hq0] at r1 r3
  have hr0 := ranged_any cards 1 256
  rw [hq0] at hr0
  have HBW := Lib.hid ((Below.refl w.heap.size w).alloc (Nat.le_refl _) (.cells #[.int .i64 cards, .slice IA ni ic, .slice TA nt tc, .slice KA nk kc] 75))
  have HPB := Lib.hid (Blk.new w 75 #[.int .i64 cards, .slice IA ni ic, .slice TA nt tc, .slice KA nk kc])
  have R1 := Lib.hid r1
  have R2 := Lib.hid r2
  have R3 := Lib.hid r3
  have HI := Lib.hid h1
  have HT := Lib.hid h2
  have HNI := Lib.hid hni
  have HNT := Lib.hid hnt
  have L3 := Lib.hid l3
  have HR0 := Lib.hid hr0
  clear r1 r2 r3 h1 h2 h3 hni hnt hnk l3 l5 hr0 hq0
  go_enter Tryz.func97, Tryz.ntmps97
  go_wp2_with fail
  refine (HR0.out _).mono ?_
  rintro e w1 ⟨rfl, rfl⟩
  cases q0 with
  | true =>
    go_wp2_with fail
    go_ret
    have e : R = 56 := by simpa using R1.out
    exact ⟨by rw [e]; rfl, HBW.out⟩
  | false =>
    by_cases h4 : (4096 : Int) < ni
    · have HR := Lib.hid (R2.out (by omega))
      go_wp2_with fail
      go_ret
      exact ⟨by rw [HR.out]; rfl, HBW.out⟩
    · have e := R3.out (by first | rfl | trivial) (by omega)
      have RI := Lib.hid e
      clear e R1 R2 R3
      go_wp2_with fail
      go_loopw [3] (fun iv wr => ∃ k : Nat, (k + 1 ≤ ni ∨ k = 0) ∧ iv = .int .i64 ((k : Int) + 1) ∧ Hid (∀ j, j < k + 1 → intC ints j = none) ∧ Below w.heap.size w wr ∧ Blk wr w.heap.size 75 #[.int .i64 cards, .slice IA ni ic, .slice TA nt tc, .slice KA nk kc]) (fun iv _ => ni + 1 - (intOf iv).toNat)
      case atStart => exact ⟨0, .inr rfl, rfl, Lib.hid (fun j hj => by obtain rfl : j = 0 := (by omega); exact intC_zero _), HBW.out, HPB.out⟩
      case round =>
        obtain ⟨k, hk, rfl, HG, hbel, hkb⟩ := hrel
        obtain ⟨x0, x1, x2, x3, _, _, _, _⟩ := hkb.four
        by_cases hin : k + 1 < ni
        · obtain ⟨t, ht⟩ : ∃ t, ints[k + 1]? = some t := ⟨_, List.getElem?_eq_getElem (by rw [HNI.out]; exact hin)⟩
          obtain ⟨p, hp⟩ : ∃ p, ints[k]? = some p := ⟨_, List.getElem?_eq_getElem (by rw [HNI.out]; omega)⟩
          obtain ⟨b, off, rfl, hbl, hc⟩ := HI.out (k + 1) t ht
          obtain ⟨b', off', e, hbl', hc'⟩ := HI.out k p hp
          injection e with e
          injection e with e1 e2
          subst e1 e2
          have hcw := (hbel.cell (p := ⟨b, _, none⟩) hbl).trans hc
          have hcp := (hbel.cell (p := ⟨b, _, none⟩) hbl).trans hc'
          have hii : (k : Int) + 1 < ni := by omega
          have HTI := Lib.hid ht
          have HPI := Lib.hid hp
          have HB := Lib.hid hbel
          have HKB := Lib.hid hkb
          clear hc hc' ht hp hbel hkb HPB HBW
          by_cases htp : t ≤ p
          · have e : R = 57 := by rw [RI.out, orS_some (firstS_some hin HG.out (intC_order HTI.out HPI.out htp))]; rfl
            have HE := Lib.hid e
            clear e
            go_wp2_with fail
            go_quiet (fail)
            go_wp2_with fail
            go_ret
            exact ⟨by rw [HE.out]; rfl, bdn HB.out _⟩
          · have hg := none_succ HG.out (intC_fine HTI.out HPI.out (by omega))
            have HG2 := Lib.hid hg
            clear hg
            go_wp2_with fail
            go_quiet (fail)
            go_wp2_with fail
            go_roundw
            case rel => exact ⟨k + 1, by omega, by go_num, HG2, bdn HB.out _, HKB.out.drewN _⟩
            case measure => (simp [intOf]; try omega)
        · have hge : (ni : Int) ≤ (k : Int) + 1 := by omega
          have e : R = errO (orS (flt (decide (4096 < nt)) 56) (firstS (textC ltB texts) nt)) := by rw [RI.out, orS_none (firstS_none fun j hj => HG.out j (by omega))]
          have RT := Lib.hid e
          have HB := Lib.hid hbel
          have HKB := Lib.hid hkb
          clear e hbel hkb RI HPB HBW HG
          by_cases h8 : (4096 : Int) < nt
          · have e : R = 56 := by rw [RT.out, orS_some (flt_true (decide_eq_true (by omega)))]; rfl
            have HE2 := Lib.hid e
            clear e
            go_wp2_with fail
            go_ret
            exact ⟨by rw [HE2.out]; rfl, HB.out⟩
          · have e : R = errO (firstS (textC ltB texts) nt) := by rw [RT.out, orS_none (flt_false (decide_eq_false (by omega)))]
            have RF := Lib.hid e
            clear e RT
            go_wp2_with fail
            go_loopw [42] (fun iv wr => ∃ i : Nat, i ≤ nt ∧ iv = .int .i64 i ∧ Hid (∀ j, j < i → textC ltB texts j = none) ∧ Below w.heap.size w wr ∧ Blk wr w.heap.size 75 #[.int .i64 cards, .slice IA ni ic, .slice TA nt tc, .slice KA nk kc]) (fun iv _ => nt - (intOf iv).toNat)
            case atStart => exact ⟨0, by omega, rfl, Lib.hid (fun j hj => absurd hj (by omega)), HB.out, HKB.out⟩
            case round =>
              clear x0 x1 x2 x3 HKB HB hge hk hin
              obtain ⟨i, hi, rfl, HG, hbel, hkb⟩ := hrel
              obtain ⟨x0, x1, x2, x3, _, _, _, _⟩ := hkb.four
              by_cases hin : i < nt
              · obtain ⟨t, ht⟩ : ∃ t, texts[i]? = some t := ⟨_, List.getElem?_eq_getElem (by rw [HNT.out]; exact hin)⟩
                obtain ⟨b, off, rfl, hbl, hc⟩ := HT.out i t ht
                have hcw := (hbel.cell (p := ⟨b, _, none⟩) hbl).trans hc
                have hii : (i : Int) < nt := by omega
                have htz := L3.out t (List.mem_of_getElem? ht)
                have HTI := Lib.hid ht
                have HB := Lib.hid hbel
                have HKB := Lib.hid hkb
                clear hc ht hbel hkb
                by_cases h64 : (64 : Int) < t.size
                · have e : R = 56 := by rw [RF.out, firstS_some hin HG.out (textC_long HTI.out (by omega))]; rfl
                  have HE := Lib.hid e
                  clear e
                  go_wp2_with fail
                  go_ret
                  exact ⟨by rw [HE.out]; rfl, HB.out⟩
                · by_cases hi0 : i = 0
                  · subst hi0
                    have hg := none_succ HG.out (textC_zero HTI.out (by omega))
                    have HG2 := Lib.hid hg
                    rw [Nat.add_zero] at hcw
                    clear hg
                    go_wp2_with fail
                    exact ⟨⟨1, by omega, rfl, HG2, HB.out, HKB.out⟩, by simp [intOf]; omega⟩
                  · obtain ⟨k, rfl⟩ : ∃ k, i = k + 1 := ⟨i - 1, by omega⟩
                    obtain ⟨p, hp⟩ : ∃ p, texts[k]? = some p := ⟨_, List.getElem?_eq_getElem (by rw [HNT.out]; omega)⟩
                    obtain ⟨b', off', e, hbl', hc'⟩ := HT.out k p hp
                    injection e with e
                    injection e with e1 e2
                    subst e1 e2
                    have hcp := (HB.out.cell (p := ⟨b, _, none⟩) hbl).trans hc'
                    have hii2 : (0 : Int) < ((k + 1 : Nat) : Int) := by omega
                    obtain ⟨q, hq⟩ : ∃ q, ltB p t = q := ⟨_, rfl⟩
                    have hcmp := ltB_not t p
                    have htn := textC_next HTI.out hp (by omega)
                    rw [hq] at hcmp htn
                    have HTN := Lib.hid htn
                    clear hc' hp hq htn
                    cases q with
                    | true =>
                      have hg := none_succ HG.out HTN.out
                      have HG2 := Lib.hid hg
                      clear hg
                      replace hcmp : (Op.bytesLess t.toList p.toList || t.toList == p.toList) = false := hcmp
                      go_wp2_with fail
                      exact ⟨⟨k + 2, by omega, by go_num, HG2, HB.out, HKB.out⟩, by simp [intOf]; omega⟩
                    | false =>
                      have e : R = 57 := by rw [RF.out, firstS_some hin HG.out HTN.out]; rfl
                      have HE := Lib.hid e
                      clear e
                      replace hcmp : (Op.bytesLess t.toList p.toList || t.toList == p.toList) = true := hcmp
                      go_wp2_with fail
                      go_ret
                      exact ⟨by rw [HE.out]; rfl, HB.out⟩
              · have hge : (nt : Int) ≤ i := by omega
                have e : R = 0 := by rw [RF.out, firstS_none fun j hj => HG.out j (by omega)]; rfl
                have HE2 := Lib.hid e
                have HB := Lib.hid hbel
                clear e hbel hkb
                go_wp2_with fail
                go_ret
                exact ⟨by rw [HE2.out]; rfl, HB.out⟩
end Go.Proofs.YtabpheanbomibaaGreatDoor
namespace Go.Proofs.YtabpheanbomibaaGreatDoor
open Go.RowKit
set_option linter.unusedVariables false

theorem textsZ_app : ∀ a b, textsZ (a ++ b) = textsZ a + textsZ b
  | [], b => by simp [textsZ]
  | x :: a, b => by rw [List.cons_append, textsZ, textsZ, textsZ_app a b]; omega
theorem effsZ_app : ∀ a b, effsZ (a ++ b) = effsZ a + effsZ b
  | [], b => by simp [effsZ]
  | x :: a, b => by rw [List.cons_append, effsZ, effsZ, effsZ_app a b]; omega
theorem kindsZ_app : ∀ a b, kindsZ (a ++ b) = kindsZ a + kindsZ b
  | [], b => by simp [kindsZ]
  | x :: a, b => by rw [List.cons_append, kindsZ, kindsZ, kindsZ_app a b]; omega
theorem textsZ_succ {l : List ByteArray} {i : Nat} {x : ByteArray} (h : l[i]? = some x) : textsZ (l.take (i + 1)) = textsZ (l.take i) + 1 + x.size := by
  rw [List.take_add_one, h, textsZ_app]
  simp only [Option.toList_some, textsZ]
  omega
theorem effsZ_succ {l : List Eff} {i : Nat} {x : Eff} (h : l[i]? = some x) : effsZ (l.take (i + 1)) = effsZ (l.take i) + 12 + x.slots.length + x.code.length := by
  rw [List.take_add_one, h, effsZ_app]
  simp only [Option.toList_some, effsZ]
  omega
theorem kindsZ_succ {l : List Knd} {i : Nat} {x : Knd} (h : l[i]? = some x) : kindsZ (l.take (i + 1)) = kindsZ (l.take i) + 16 + 2 * x.tags.length + effsZ x.effs := by
  rw [List.take_add_one, h, kindsZ_app]
  simp only [Option.toList_some, kindsZ]
  omega
theorem textsZ_bd : ∀ (l : List ByteArray), (∀ x ∈ l, x.size ≤ 16777216) → 0 ≤ textsZ l ∧ textsZ l ≤ l.length * 16777217
  | [], _ => by simp [textsZ]
  | x :: l, h => by
    obtain ⟨h1, h2⟩ := textsZ_bd l fun y hy => h y (List.mem_cons_of_mem _ hy)
    have h3 := h x (List.mem_cons_self ..)
    rw [textsZ, List.length_cons]
    omega
theorem effsZ_bd : ∀ (l : List Eff), (∀ x ∈ l, EffSm x) → 0 ≤ effsZ l ∧ effsZ l ≤ l.length * 33554444
  | [], _ => by simp [effsZ]
  | x :: l, h => by
    obtain ⟨h1, h2⟩ := effsZ_bd l fun y hy => h y (List.mem_cons_of_mem _ hy)
    obtain ⟨h3, h4⟩ := h x (List.mem_cons_self ..)
    rw [effsZ, List.length_cons]
    omega
theorem kindsZ_bd : ∀ (l : List Knd), (∀ x ∈ l, KndSm x) → 0 ≤ kindsZ l ∧ kindsZ l ≤ l.length * 562950188302352
  | [], _ => by simp [kindsZ]
  | x :: l, h => by
    obtain ⟨h1, h2⟩ := kindsZ_bd l fun y hy => h y (List.mem_cons_of_mem _ hy)
    obtain ⟨h3, h4, h5⟩ := h x (List.mem_cons_self ..)
    obtain ⟨h6, h7⟩ := effsZ_bd x.effs h5
    rw [kindsZ, List.length_cons]
    omega
theorem textsZ_take {l : List ByteArray} (h : ∀ x ∈ l, x.size ≤ 16777216) (hl : l.length ≤ 16777216) (i : Nat) : 0 ≤ textsZ (l.take i) ∧ textsZ (l.take i) ≤ 281474993487872 := by
  have h1 := textsZ_bd (l.take i) fun x hx => h x (List.mem_of_mem_take hx)
  have h2 : (l.take i).length ≤ 16777216 := by rw [List.length_take]; omega
  omega
theorem effsZ_take {l : List Eff} (h : ∀ x ∈ l, EffSm x) (hl : l.length ≤ 16777216) (i : Nat) : 0 ≤ effsZ (l.take i) ∧ effsZ (l.take i) ≤ 562950154747904 := by
  have h1 := effsZ_bd (l.take i) fun x hx => h x (List.mem_of_mem_take hx)
  have h2 : (l.take i).length ≤ 16777216 := by rw [List.length_take]; omega
  omega
theorem kindsZ_take {l : List Knd} (h : ∀ x ∈ l, KndSm x) (i : Nat) (hi : l.length ≤ 256) : 0 ≤ kindsZ (l.take i) ∧ kindsZ (l.take i) ≤ 144115248205402112 := by
  have h1 := kindsZ_bd (l.take i) fun x hx => h x (List.mem_of_mem_take hx)
  have h2 : (l.take i).length ≤ 256 := by rw [List.length_take]; omega
  omega
theorem checkP_pools {lt : ByteArray → ByteArray → Bool} {p : Pck} {e : Int} (h : poolsC lt p = some e) : checkP lt p = some e := by
  unfold checkP
  rw [orS_some h]
theorem checkP_many {lt : ByteArray → ByteArray → Bool} {p : Pck} (h : poolsC lt p = none) (h2 : 256 < p.kinds.length) : checkP lt p = some 56 := by
  unfold checkP
  rw [orS_none h, orS_some (flt_true (decide_eq_true h2))]
theorem checkP_kinds {lt : ByteArray → ByteArray → Bool} {p : Pck} (h : poolsC lt p = none) (h2 : ¬ 256 < p.kinds.length) : checkP lt p = orS (firstS (fun i => kndC p.texts.length (p.kinds.getD i knd0)) p.kinds.length) (flt (decide (1048576 < packZ p)) 20) := by
  unfold checkP
  rw [orS_none h, orS_none (flt_false (decide_eq_false h2))]
/-- A fault's number is none but 0's. -/
def NZ (o : Option Int) : Prop := ∀ e, o = some e → e ≠ 0 ∧ 0 ≤ e ∧ e ≤ 127
theorem NZ.flt {b : Bool} {e : Int} (h : e ≠ 0) (h2 : 0 ≤ e) (h3 : e ≤ 127) : NZ (flt b e) := by
  intro x hx
  unfold Go.Proofs.YtabpheanbomibaaGreatDoor.flt at hx
  split at hx
  · injection hx with hx
    subst hx
    exact ⟨h, h2, h3⟩
  · cases hx
theorem NZ.orS {a b : Option Int} (h : NZ a) (h2 : NZ b) : NZ (orS a b) := by
  intro x hx
  cases a with
  | none => exact h2 x hx
  | some y => exact h x hx
theorem NZ.first {f : Nat → Option Int} {n : Nat} (h : ∀ i, NZ (f i)) : NZ (firstS f n) := by
  intro x hx
  unfold firstS at hx
  obtain ⟨i, _, hi⟩ := List.exists_of_findSome?_eq_some hx
  exact h i x hi
theorem effC_nz (x : Eff) : NZ (effC x) := NZ.flt (by decide) (by decide) (by decide)
theorem kndC_nz (n : Int) (k : Knd) : NZ (kndC n k) :=
  NZ.orS (NZ.flt (by decide) (by decide) (by decide)) (NZ.orS (NZ.flt (by decide) (by decide) (by decide)) (NZ.orS (NZ.first fun i => NZ.orS (NZ.flt (by decide) (by decide) (by decide)) (NZ.flt (by decide) (by decide) (by decide))) (NZ.orS (NZ.flt (by decide) (by decide) (by decide)) (NZ.first fun i => effC_nz _))))
theorem poolsC_nz (lt : ByteArray → ByteArray → Bool) (p : Pck) : NZ (poolsC lt p) :=
  NZ.orS (NZ.flt (by decide) (by decide) (by decide)) (NZ.orS (NZ.first fun i => NZ.flt (by decide) (by decide) (by decide)) (NZ.orS (NZ.flt (by decide) (by decide) (by decide)) (NZ.first fun i => NZ.orS (NZ.flt (by decide) (by decide) (by decide)) (NZ.flt (by decide) (by decide) (by decide)))))
theorem checkP_nz (lt : ByteArray → ByteArray → Bool) (p : Pck) : NZ (checkP lt p) :=
  NZ.orS (poolsC_nz lt p) (NZ.orS (NZ.flt (by decide) (by decide) (by decide)) (NZ.orS (NZ.first fun i => kndC_nz _ _) (NZ.flt (by decide) (by decide) (by decide))))
end Go.Proofs.YtabpheanbomibaaGreatDoor
namespace Go.Proofs.YtabpheanbomibaaGreatDoor
open Go.RowKit
set_option linter.unusedVariables false

def PckTy (p : Pck) : Prop := ∀ k ∈ p.kinds, KndTy k
set_option maxRecDepth 100000 in
set_option maxHeartbeats 4000000 in
theorem packCheck_any (p : Pck) (IA TA KA : Option Addr) (ic tc kc : Nat) (w : World) (hp : PckAt w IA TA KA p) (hs : PckSm p) (hty : PckTy p) :
    Calls Tryz.prog 69 #[.agg (pckV p IA TA KA ic tc kc)] w fun e w' => e = .returned (.int .i64 (errO (checkP ltB p))) ∧ Below w.heap.size w w' := by
  obtain ⟨R, hR⟩ : ∃ R, R = errO (checkP ltB p) := ⟨_, rfl⟩
  rw [← hR]
  obtain ⟨Q, hQ⟩ : ∃ Q, poolsC ltB p = Q := ⟨_, rfl⟩
  have hq := fun (wx : World) (h : Below w.heap.size w wx) => checkPools_any p IA TA KA ic tc kc wx (hp.below h) hs
  have r1 : ∀ e, Q = some e → R = e := fun e h => by rw [hR, checkP_pools (by rw [hQ, h])]; rfl
  have r2 : Q = none → 256 < p.kinds.length → R = 56 := fun h h2 => by rw [hR, checkP_many (by rw [hQ, h]) h2]; rfl
  have r3 : Q = none → ¬ 256 < p.kinds.length → R = errO (orS (firstS (fun i => kndC p.texts.length (p.kinds.getD i knd0)) p.kinds.length) (flt (decide (1048576 < packZ p)) 20)) := fun h h2 => by rw [hR, checkP_kinds (by rw [hQ, h]) h2]
  have hz := poolsC_nz ltB p
  rw [hQ] at hq hz
  clear hR hQ
  obtain ⟨cards, ints, texts, kinds⟩ := p
  obtain ⟨h1, h2, h3⟩ := hp
  obtain ⟨l1, l2, l3, l4, l5⟩ := hs
  unfold packZ at r3
  simp only [pckV] at h1 h2 h3 l1 l2 l3 l4 l5 r1 r2 r3 hq ⊢
  have hzt := fun i => textsZ_take l3 l2 i
  obtain ⟨ni, hni⟩ : ∃ n, ints.length = n := ⟨_, rfl⟩
  obtain ⟨nt, hnt⟩ : ∃ n, texts.length = n := ⟨_, rfl⟩
  obtain ⟨nk, hnk⟩ : ∃ n, kinds.length = n := ⟨_, rfl⟩
  rw [hni] at l1 r3 hq ⊢
  rw [hnt] at l2 r3 hq ⊢
  rw [hnk] at l4 r2 r3 hq ⊢
  have HBW := Lib.hid ((Below.refl w.heap.size w).alloc (Nat.le_refl _) (.cells #[.int .i64 cards, .slice IA ni ic, .slice TA nt tc, .slice KA nk kc] 75))
  have HPB := Lib.hid (Blk.new w 75 #[.int .i64 cards, .slice IA ni ic, .slice TA nt tc, .slice KA nk kc])
  have HCP := Lib.hid hq
  have R1 := Lib.hid r1
  have R2 := Lib.hid r2
  have R3 := Lib.hid r3
  have HT := Lib.hid h2
  have HK := Lib.hid h3
  have HNT := Lib.hid hnt
  have HNK := Lib.hid hnk
  have L3 := Lib.hid l3
  have L5 := Lib.hid l5
  have HZ := Lib.hid hz
  have HZT := Lib.hid hzt
  have HTY := Lib.hid hty
  clear r1 r2 r3 h1 h2 h3 hni hnt hnk l3 l5 hq hz hty hzt
  go_enter Tryz.func69, Tryz.ntmps69
  go_wp2_with fail
  refine (HCP.out _ HBW.out).mono ?_
  rintro e w1 ⟨rfl, hb1⟩
  have hpb := HPB.out.below hb1 (by simp)
  obtain ⟨x0, x1, x2, x3, _, _, _, _⟩ := hpb.four
  have HB1 := Lib.hid (HBW.out.trans (hb1.mono (by simp)))
  have HPB1 := Lib.hid hpb
  clear hb1 hpb HBW HPB
  cases Q with
  | some e0 =>
    obtain ⟨z1, z2, z3⟩ := HZ.out e0 rfl
    have HE := Lib.hid (R1.out e0 rfl)
    simp only [errO, Option.getD_some]
    go_wp2_with fail
    go_ret
    exact ⟨by rw [HE.out]; rfl, HB1.out⟩
  | none =>
    simp only [errO, Option.getD_none]
    by_cases h256 : (256 : Int) < nk
    · have HE := Lib.hid (R2.out rfl (by omega))
      go_wp2_with fail
      go_ret
      exact ⟨by rw [HE.out]; rfl, HB1.out⟩
    · have RK := Lib.hid (R3.out rfl (by omega))
      clear R1 R2 R3
      go_wp2_with fail
      go_loopw [4, 29] (fun sv iv wr => ∃ (i : Nat) (S : Int), i ≤ nt ∧ sv = .int .i64 S ∧ iv = .int .i64 i ∧ Hid (S = 37 + 8 * (ni : Int) + textsZ (texts.take i)) ∧ Below w.heap.size w wr ∧ Blk wr w.heap.size 75 #[.int .i64 cards, .slice IA ni ic, .slice TA nt tc, .slice KA nk kc]) (fun _ iv _ => nt - (intOf iv).toNat)
      case atStart => exact ⟨0, _, by omega, rfl, rfl, Lib.hid (by simp [textsZ]), HB1.out, HPB1.out⟩
      case round =>
        clear x0 x1 x2 x3
        obtain ⟨i, S, hi, rfl, rfl, HS, hbel, hpb⟩ := hrel
        obtain ⟨x0, x1, x2, x3, _, _, _, _⟩ := hpb.four
        by_cases hin : i < nt
        · obtain ⟨t, ht⟩ : ∃ t, texts[i]? = some t := ⟨_, List.getElem?_eq_getElem (by rw [HNT.out]; exact hin)⟩
          obtain ⟨b, off, rfl, hbl, hc⟩ := HT.out i t ht
          have hcw := (hbel.cell (p := ⟨b, _, none⟩) hbl).trans hc
          have hii : (i : Int) < nt := by omega
          have htz := L3.out t (List.mem_of_getElem? ht)
          have hS := HS.out
          obtain ⟨z1, z2⟩ := HZT.out i
          have hS1 : 0 ≤ S := by omega
          have hS2 : S ≤ 281475261923366 := by omega
          have hnx : S + (1 + (t.size : Int)) = 37 + 8 * (ni : Int) + textsZ (texts.take (i + 1)) := by rw [textsZ_succ ht, hS]; omega
          have HNX := Lib.hid hnx
          have HB := Lib.hid hbel
          have HPB := Lib.hid hpb
          clear hc ht hbel hpb hS z1 z2 hnx HPB1 HB1
          go_wp2_with fail
          go_roundw
          case rel => exact ⟨i + 1, _, by omega, rfl, by go_num, HNX, HB.out, HPB.out⟩
          case measure => (simp [intOf]; try omega)
        · have hge : (nt : Int) ≤ i := by omega
          have hS := HS.out
          rw [List.take_of_length_le (by rw [HNT.out]; omega)] at hS
          obtain ⟨z1, z2⟩ := HZT.out nt
          rw [List.take_of_length_le (by rw [HNT.out]; omega)] at z1 z2
          have HSf := Lib.hid hS
          have hS1 : 0 ≤ S := by omega
          have hS2 : S ≤ 281475261923366 := by omega
          have HB := Lib.hid hbel
          have HPB := Lib.hid hpb
          clear hbel hpb hS z1 z2 HPB1 HB1 HS
          go_wp2_with fail
          go_loopw [4, 42] (fun sv iv wr => ∃ (i : Nat) (S : Int), i ≤ nk ∧ sv = .int .i64 S ∧ iv = .int .i64 i ∧ Hid (S = 37 + 8 * (ni : Int) + textsZ texts + kindsZ (kinds.take i)) ∧ Hid (∀ j, j < i → kndC nt (kinds.getD j knd0) = none) ∧ Below w.heap.size w wr ∧ Blk wr w.heap.size 75 #[.int .i64 cards, .slice IA ni ic, .slice TA nt tc, .slice KA nk kc]) (fun _ iv _ => nk - (intOf iv).toNat)
          case atStart => exact ⟨0, _, by omega, rfl, rfl, Lib.hid (by simp [kindsZ, HSf.out]), Lib.hid (fun j hj => absurd hj (by omega)), HB.out, HPB.out⟩
          case round =>
            clear x0 x1 x2 x3 HSf hS1 hS2 HB HPB hge hi hin
            obtain ⟨i, S, hi, rfl, rfl, HS, HG, hbel, hpb⟩ := hrel
            obtain ⟨x0, x1, x2, x3, _, _, _, _⟩ := hpb.four
            have hkz := kindsZ_take (l := kinds) L5.out i (by rw [HNK.out]; omega)
            have htz := HZT.out nt
            rw [List.take_of_length_le (by rw [HNT.out]; omega)] at htz
            have hS := HS.out
            have hS1 : 0 ≤ S := by omega
            have hS2 : S ≤ 144396723466825478 := by omega
            by_cases hin : i < nk
            · obtain ⟨x, hx⟩ : ∃ x, kinds[i]? = some x := ⟨_, List.getElem?_eq_getElem (by rw [HNK.out]; exact hin)⟩
              obtain ⟨b, off, rfl, hbl, hxa⟩ := HK.out i x hx
              obtain ⟨TA', tc', EA, ec, c0, c1, c2, c3, c4, c5, hI, hE⟩ := hxa.below hbel hbl
              have hsm := L5.out x (List.mem_of_getElem? hx)
              have hty := HTY.out x (List.mem_of_getElem? hx)
              have hba := (Below.refl wr.heap.size wr).alloc (Nat.le_refl _) (.cells (kndV x TA' EA tc' ec) 123)
              have hcall := checkKnd_any x TA' EA tc' ec nt _ hsm l2 (hI.below hba) (hE.below hba) hty
              have hgk := Blk.new wr 123 (kndV x TA' EA tc' ec)
              have hgd : kinds.getD i knd0 = x := getD_at hx
              obtain ⟨E, hE2⟩ : ∃ E, kndC nt x = E := ⟨_, rfl⟩
              have hnz := kndC_nz nt x
              have hEi : kndC nt (kinds.getD i knd0) = E := by rw [hgd, hE2]
              rw [hE2] at hcall hnz
              have hsum := kindsZ_succ hx
              obtain ⟨nm, co, po, he, tags, effs⟩ := x
              simp only [kndV] at hcall hgk hba c0 c1 c2 c3 c4 c5
              obtain ⟨s1, s2, s3⟩ := hsm
              simp only at s1 s2 s3 hsum hE
              have hez := fun j => effsZ_take s3 s2 j
              have HSM3 := Lib.hid s3
              obtain ⟨ng, hng⟩ : ∃ n, tags.length = n := ⟨_, rfl⟩
              obtain ⟨ne, hne⟩ : ∃ n, effs.length = n := ⟨_, rfl⟩
              rw [hng] at c4 s1 hsum hcall hgk hba
              rw [hne] at c5 s2 hcall hgk hba
              have hii : (i : Int) < nk := by omega
              have HCA := Lib.hid hcall
              have HEI := Lib.hid hEi
              have HNZ := Lib.hid hnz
              have HSUM := Lib.hid hsum
              have HE := Lib.hid hE
              have HEZ := Lib.hid hez
              have HNE := Lib.hid hne
              have HB := Lib.hid hbel
              have HBA := Lib.hid hba
              have HGK := Lib.hid hgk
              have HPB := Lib.hid hpb
              have hgsz : w.heap.size ≤ wr.heap.size := hbel.size
              have hplt := hpb.lt
              clear hcall hEi hnz hsum hE hez hng hne hbel hba hgk hpb hx hxa hI hgd hE2 s3 hty hkz htz hS
              go_wp2_with fail
              refine HCA.out.mono ?_
              rintro e w2 ⟨rfl, hb2⟩
              have hgk2 := HGK.out.below hb2 HGK.out.lt
              have hpb2 := (HPB.out.below HBA.out hplt).below hb2 (by simp; omega)
              have HB2 := Lib.hid (HB.out.trans ((HBA.out.trans (hb2.mono (by simp))).mono hgsz))
              have HBK := Lib.hid (HBA.out.trans (hb2.mono (by simp)))
              have HGK2 := Lib.hid hgk2
              have HPB2 := Lib.hid hpb2
              obtain ⟨y0, y1, y2, y3, y4, y5⟩ := hgk2.six.1
              clear hb2 hgk2 hpb2 HGK HPB x0 x1 x2 x3
              cases E with
              | some e0 =>
                obtain ⟨z1, z2, z3⟩ := HNZ.out e0 rfl
                have e : R = e0 := by rw [RK.out, orS_some (firstS_some hin HG.out HEI.out)]; rfl
                have HE3 := Lib.hid e
                clear e
                simp only [errO, Option.getD_some]
                go_wp2_with fail
                go_ret
                exact ⟨by rw [HE3.out]; rfl, HB2.out⟩
              | none =>
                simp only [errO, Option.getD_none]
                go_wp2_with fail
                go_loopw [4, 64] (fun sv jv w3 => ∃ (j : Nat) (S' : Int), j ≤ ne ∧ sv = .int .i64 S' ∧ jv = .int .i64 j ∧ Hid (S' = S + (16 + 2 * (ng : Int)) + effsZ (effs.take j)) ∧ Below wr.heap.size wr w3 ∧ Below w.heap.size w w3 ∧ Blk w3 w.heap.size 75 #[.int .i64 cards, .slice IA ni ic, .slice TA nt tc, .slice (some ⟨b, off, none⟩) nk kc]) (fun _ jv _ => ne - (intOf jv).toNat)
                case atStart => exact ⟨0, _, by omega, rfl, rfl, Lib.hid (by simp [effsZ]), HBK.out, HB2.out, HPB2.out⟩
                case round =>
                  clear y0 y1 y2 y3 y4 y5 HPB2 HB2 HBK HGK2 HCA
                  obtain ⟨j, S', hj, rfl, rfl, HS', hb3, hb4, hpb⟩ := hrel
                  obtain ⟨x0, x1, x2, x3, _, _, _, _⟩ := hpb.four
                  have hez := HEZ.out j
                  have hS' := HS'.out
                  have hT1 : 0 ≤ S' := by omega
                  have hT2 : S' ≤ 145000000000000000 := by omega
                  by_cases hjn : j < ne
                  · obtain ⟨e, he⟩ : ∃ e, effs[j]? = some e := ⟨_, List.getElem?_eq_getElem (by rw [HNE.out]; exact hjn)⟩
                    obtain ⟨b2, off2, rfl, hbl2, hea⟩ := HE.out j e he
                    obtain ⟨SA, sc, CA, cc, e0, e1, e2, e3, _, _⟩ := hea.below hb3 hbl2
                    obtain ⟨k4, k5⟩ := HSM3.out e (List.mem_of_getElem? he)
                    have hsum := effsZ_succ he
                    obtain ⟨on, slots, code, bd⟩ := e
                    simp only at e0 e1 e2 e3 k4 k5 hsum
                    obtain ⟨n1, hn1⟩ : ∃ n, slots.length = n := ⟨_, rfl⟩
                    obtain ⟨n2, hn2⟩ : ∃ n, code.length = n := ⟨_, rfl⟩
                    rw [hn1] at e1 k4 hsum
                    rw [hn2] at e2 k5 hsum
                    have hjj : (j : Int) < ne := by omega
                    have hnx : S' + (12 + (n1 : Int) + n2) = S + (16 + 2 * (ng : Int)) + effsZ (effs.take (j + 1)) := by rw [hsum, hS']; omega
                    have HNX := Lib.hid hnx
                    have HB3 := Lib.hid hb3
                    have HB4 := Lib.hid hb4
                    have HPB := Lib.hid hpb
                    clear he hea hsum hn1 hn2 hnx hb3 hb4 hpb hez hS'
                    go_wp2_with fail
                    go_roundw
                    case rel => exact ⟨j + 1, _, by omega, rfl, by go_num, HNX, HB3.out.alloc HB3.out.size _, HB4.out.alloc HB4.out.size _, HPB.out.alloc _⟩
                    case measure => (simp [intOf]; try omega)
                  · have hge : (ne : Int) ≤ j := by omega
                    rw [List.take_of_length_le (by rw [HNE.out]; omega)] at hS' hez
                    have hnx : S' = 37 + 8 * (ni : Int) + textsZ texts + kindsZ (kinds.take (i + 1)) := by rw [HSUM.out, hS', HS.out]; omega
                    have HNX := Lib.hid hnx
                    have HG2 := Lib.hid (none_succ HG.out HEI.out)
                    have HB4 := Lib.hid hb4
                    have HPB := Lib.hid hpb
                    clear hnx hb3 hb4 hpb hez hS'
                    go_wp2_with fail
                    exact ⟨⟨i + 1, _, by omega, rfl, by go_num, HNX, HG2, HB4.out, HPB.out⟩, by simp [intOf]; omega⟩
            · have hge : (nk : Int) ≤ i := by omega
              rw [List.take_of_length_le (by rw [HNK.out]; omega)] at hS
              have e : R = errO (flt (decide (1048576 < S)) 20) := by rw [RK.out, orS_none (firstS_none fun j hj => HG.out j (by omega)), hS]
              have HE := Lib.hid e
              have HB := Lib.hid hbel
              clear e hbel hpb hS hkz htz
              by_cases hlong : 1048576 < S
              · have e : R = 20 := by rw [HE.out, flt_true (decide_eq_true hlong)]; rfl
                have HE2 := Lib.hid e
                clear e
                go_wp2_with fail
                go_ret
                exact ⟨by rw [HE2.out]; rfl, HB.out⟩
              · have e : R = 0 := by rw [HE.out, flt_false (decide_eq_false hlong)]; rfl
                have HE2 := Lib.hid e
                clear e
                go_wp2_with fail
                go_ret
                exact ⟨by rw [HE2.out]; rfl, HB.out⟩
end Go.Proofs.YtabpheanbomibaaGreatDoor
namespace Go.Proofs.YtabpheanbomibaaGreatDoor
open Go.RowKit
set_option linter.unusedVariables false

def intsP (p : Pck) : Option Int := orS (flt (outR 1 256 p.cards || decide (4096 < p.ints.length)) 56) (firstS (intC p.ints) p.ints.length)
def textsP (l : List ByteArray) : Option Int := orS (flt (decide (4096 < l.length)) 56) (firstS (textC ltB l) l.length)
theorem orS_assoc {α : Type} (a b c : Option α) : orS (orS a b) c = orS a (orS b c) := by cases a <;> rfl
theorem poolsC_two (p : Pck) : poolsC ltB p = orS (intsP p) (textsP p.texts) := by
  unfold poolsC intsP textsP
  rw [orS_assoc]
set_option maxRecDepth 100000 in
set_option maxHeartbeats 4000000 in
theorem ints19_any (p : Pck) (IA TA KA : Option Addr) (ic tc kc : Nat) (w : World) (hp : PckAt w IA TA KA p) (hs : PckSm p) :
    Calls Tryz.prog 99 #[.agg (pckV p IA TA KA ic tc kc)] w fun e w' => e = .returned (.int .i64 (errO (intsP p))) ∧ Below w.heap.size w w' := by
  obtain ⟨R, hR⟩ : ∃ R, R = errO (intsP p) := ⟨_, rfl⟩
  rw [← hR]
  unfold intsP at hR
  obtain ⟨cards, ints, texts, kinds⟩ := p
  obtain ⟨h1, h2, h3⟩ := hp
  obtain ⟨l1, l2, l3, l4, l5⟩ := hs
  simp only [pckV] at h1 h2 h3 l1 l2 l3 l4 l5 hR ⊢
  obtain ⟨ni, hni⟩ : ∃ n, ints.length = n := ⟨_, rfl⟩
  obtain ⟨nt, hnt⟩ : ∃ n, texts.length = n := ⟨_, rfl⟩
  obtain ⟨nk, hnk⟩ : ∃ n, kinds.length = n := ⟨_, rfl⟩
  rw [hni] at l1 hR ⊢
  rw [hnt] at l2 ⊢
  rw [hnk] at l4 ⊢
  have HBW := Lib.hid ((Below.refl w.heap.size w).alloc (Nat.le_refl _) (.cells #[.int .i64 cards, .slice IA ni ic, .slice TA nt tc, .slice KA nk kc] 75))
  have HPB := Lib.hid (Blk.new w 75 #[.int .i64 cards, .slice IA ni ic, .slice TA nt tc, .slice KA nk kc])
  have HR := Lib.hid hR
  have HI := Lib.hid h1
  have HNI := Lib.hid hni
  clear h1 h2 h3 hni hnt hnk l3 l5 hR
  by_cases hb : cards < 1 ∨ 256 < cards ∨ (4096 : Int) < ni
  · have e : R = 56 := by
      rw [HR.out, orS_some (flt_true _)]
      · rfl
      · unfold outR
        simp only [Bool.or_eq_true, decide_eq_true_eq]
        omega
    have HE := Lib.hid e
    clear e
    go_enter Tryz.func99, Tryz.ntmps99
    go_wp2_with fail
    all_goals first | (exfalso; omega) | (go_ret; exact ⟨by rw [HE.out]; rfl, HBW.out⟩)
  · have e : R = errO (firstS (intC ints) ni) := by
      rw [HR.out, orS_none (flt_false _)]
      unfold outR
      simp only [Bool.or_eq_false_iff, decide_eq_false_iff_not]
      omega
    have RI := Lib.hid e
    have g1 : 1 ≤ cards := by omega
    have g2 : cards ≤ 256 := by omega
    have g3 : (ni : Int) ≤ 4096 := by omega
    clear e hb HR
    go_enter Tryz.func99, Tryz.ntmps99
    go_wp2_with fail
    all_goals (try (exfalso; omega))
    go_loopw [3] (fun iv wr => ∃ k : Nat, (k + 1 ≤ ni ∨ k = 0) ∧ iv = .int .i64 ((k : Int) + 1) ∧ Hid (∀ j, j < k + 1 → intC ints j = none) ∧ Below w.heap.size w wr ∧ Blk wr w.heap.size 75 #[.int .i64 cards, .slice IA ni ic, .slice TA nt tc, .slice KA nk kc]) (fun iv _ => ni + 1 - (intOf iv).toNat)
    case atStart => exact ⟨0, .inr rfl, rfl, Lib.hid (fun j hj => by obtain rfl : j = 0 := (by omega); exact intC_zero _), HBW.out, HPB.out⟩
    case round =>
      obtain ⟨k, hk, rfl, HG, hbel, hkb⟩ := hrel
      obtain ⟨x0, x1, x2, x3, _, _, _, _⟩ := hkb.four
      by_cases hin : k + 1 < ni
      · obtain ⟨t, ht⟩ : ∃ t, ints[k + 1]? = some t := ⟨_, List.getElem?_eq_getElem (by rw [HNI.out]; exact hin)⟩
        obtain ⟨p, hp⟩ : ∃ p, ints[k]? = some p := ⟨_, List.getElem?_eq_getElem (by rw [HNI.out]; omega)⟩
        obtain ⟨b, off, rfl, hbl, hc⟩ := HI.out (k + 1) t ht
        obtain ⟨b', off', e, hbl', hc'⟩ := HI.out k p hp
        injection e with e
        injection e with e1 e2
        subst e1 e2
        have hcw := (hbel.cell (p := ⟨b, _, none⟩) hbl).trans hc
        have hcp := (hbel.cell (p := ⟨b, _, none⟩) hbl).trans hc'
        have hii : (k : Int) + 1 < ni := by omega
        have HTI := Lib.hid ht
        have HPI := Lib.hid hp
        have HB := Lib.hid hbel
        have HKB := Lib.hid hkb
        clear hc hc' ht hp hbel hkb HPB HBW
        by_cases htp : t ≤ p
        · have e : R = 57 := by rw [RI.out, firstS_some hin HG.out (intC_order HTI.out HPI.out htp)]; rfl
          have HE := Lib.hid e
          clear e
          go_wp2_with fail
          go_quiet (fail)
          go_wp2_with fail
          go_ret
          exact ⟨by rw [HE.out]; rfl, bdn HB.out _⟩
        · have hg := none_succ HG.out (intC_fine HTI.out HPI.out (by omega))
          have HG2 := Lib.hid hg
          clear hg
          go_wp2_with fail
          go_quiet (fail)
          go_wp2_with fail
          go_roundw
          case rel => exact ⟨k + 1, by omega, by go_num, HG2, bdn HB.out _, HKB.out.drewN _⟩
          case measure => (simp [intOf]; try omega)
      · have hge : (ni : Int) ≤ (k : Int) + 1 := by omega
        have e : R = 0 := by rw [RI.out, firstS_none fun j hj => HG.out j (by omega)]; rfl
        have HE := Lib.hid e
        have HB := Lib.hid hbel
        clear e hbel hkb
        go_wp2_with fail
        go_ret
        exact ⟨by rw [HE.out]; rfl, HB.out⟩
set_option maxRecDepth 100000 in
set_option maxHeartbeats 4000000 in
theorem texts19_any (texts : List ByteArray) (TA : Option Addr) (tc : Nat) (w : World) (hT : TextsAt w TA texts) (hl : texts.length ≤ 16777216) (hz : ∀ x ∈ texts, x.size ≤ 16777216) :
    Calls Tryz.prog 100 #[.slice TA texts.length tc] w fun e w' => e = .returned (.int .i64 (errO (textsP texts))) ∧ Below w.heap.size w w' := by
  obtain ⟨R, hR⟩ : ∃ R, R = errO (textsP texts) := ⟨_, rfl⟩
  rw [← hR]
  unfold textsP at hR
  obtain ⟨nt, hnt⟩ : ∃ n, texts.length = n := ⟨_, rfl⟩
  rw [hnt] at hl hR ⊢
  have HR := Lib.hid hR
  have HT := Lib.hid hT
  have HNT := Lib.hid hnt
  have L3 := Lib.hid hz
  clear hR hT hnt hz
  by_cases h4 : (4096 : Int) < nt
  · have e : R = 56 := by rw [HR.out, orS_some (flt_true (decide_eq_true (by omega)))]; rfl
    have HE := Lib.hid e
    clear e
    go_enter Tryz.func100, Tryz.ntmps100
    go_wp2_with fail
    go_ret
    exact ⟨by rw [HE.out]; rfl, Below.refl _ _⟩
  · have e : R = errO (firstS (textC ltB texts) nt) := by rw [HR.out, orS_none (flt_false (decide_eq_false (by omega)))]
    have RF := Lib.hid e
    clear e HR
    go_enter Tryz.func100, Tryz.ntmps100
    go_wp2_with fail
    go_loopw [3] (fun iv wr => ∃ i : Nat, i ≤ nt ∧ iv = .int .i64 i ∧ Hid (∀ j, j < i → textC ltB texts j = none) ∧ Below w.heap.size w wr) (fun iv _ => nt - (intOf iv).toNat)
    case atStart => exact ⟨0, by omega, rfl, Lib.hid (fun j hj => absurd hj (by omega)), Below.refl _ _⟩
    case round =>
      obtain ⟨i, hi, rfl, HG, hbel⟩ := hrel
      by_cases hin : i < nt
      · obtain ⟨t, ht⟩ : ∃ t, texts[i]? = some t := ⟨_, List.getElem?_eq_getElem (by rw [HNT.out]; exact hin)⟩
        obtain ⟨b, off, rfl, hbl, hc⟩ := HT.out i t ht
        have hcw := (hbel.cell (p := ⟨b, _, none⟩) hbl).trans hc
        have hii : (i : Int) < nt := by omega
        have htz := L3.out t (List.mem_of_getElem? ht)
        have HTI := Lib.hid ht
        have HB := Lib.hid hbel
        clear hc ht hbel
        by_cases h64 : (64 : Int) < t.size
        · have e : R = 56 := by rw [RF.out, firstS_some hin HG.out (textC_long HTI.out (by omega))]; rfl
          have HE := Lib.hid e
          clear e
          go_wp2_with fail
          go_ret
          exact ⟨by rw [HE.out]; rfl, HB.out⟩
        · by_cases hi0 : i = 0
          · subst hi0
            have hg := none_succ HG.out (textC_zero HTI.out (by omega))
            have HG2 := Lib.hid hg
            rw [Nat.add_zero] at hcw
            clear hg
            go_wp2_with fail
            go_quiet (fail)
            go_wp2_with fail
            go_roundw
            case rel => exact ⟨1, by omega, by first | rfl | go_num, HG2, bdn HB.out _⟩
            case measure => (simp [intOf]; try omega)
          · obtain ⟨k, rfl⟩ : ∃ k, i = k + 1 := ⟨i - 1, by omega⟩
            obtain ⟨p, hp⟩ : ∃ p, texts[k]? = some p := ⟨_, List.getElem?_eq_getElem (by rw [HNT.out]; omega)⟩
            obtain ⟨b', off', e, hbl', hc'⟩ := HT.out k p hp
            injection e with e
            injection e with e1 e2
            subst e1 e2
            have hcp := (HB.out.cell (p := ⟨b, _, none⟩) hbl).trans hc'
            have hii2 : (0 : Int) < ((k + 1 : Nat) : Int) := by omega
            have hpz := L3.out p (List.mem_of_getElem? hp)
            obtain ⟨q, hq⟩ : ∃ q, ltB p t = q := ⟨_, rfl⟩
            have hbc := fun wx => below19_any p t wx hpz htz
            have htn := textC_next HTI.out hp (by omega)
            rw [hq] at hbc htn
            have HTN := Lib.hid htn
            have HBC := Lib.hid hbc
            clear hc' hp hq htn hbc
            cases q with
            | true =>
              have hg := none_succ HG.out HTN.out
              have HG2 := Lib.hid hg
              clear hg
              go_wp2_with fail
              go_quiet ((go_at_call 130; exact Calls.quiet_of (HBC.out _)))
              go_wp2_with fail
              go_roundw
              case rel => exact ⟨k + 2, by omega, by go_num, HG2, bdn HB.out _⟩
              case measure => (simp [intOf]; try omega)
            | false =>
              have e : R = 57 := by rw [RF.out, firstS_some hin HG.out HTN.out]; rfl
              have HE := Lib.hid e
              clear e
              go_wp2_with fail
              go_quiet ((go_at_call 130; exact Calls.quiet_of (HBC.out _)))
              go_wp2_with fail
              go_ret
              exact ⟨by rw [HE.out]; rfl, bdn HB.out _⟩
      · have hge : (nt : Int) ≤ i := by omega
        have e : R = 0 := by rw [RF.out, firstS_none fun j hj => HG.out j (by omega)]; rfl
        have HE2 := Lib.hid e
        have HB := Lib.hid hbel
        clear e hbel
        go_wp2_with fail
        go_ret
        exact ⟨by rw [HE2.out]; rfl, HB.out⟩
set_option maxRecDepth 100000 in
set_option maxHeartbeats 4000000 in
theorem size19_any (p : Pck) (IA TA KA : Option Addr) (ic tc kc : Nat) (w : World) (hp : PckAt w IA TA KA p) (hs : PckSm p) (h256 : p.kinds.length ≤ 256) :
    Calls Tryz.prog 102 #[.agg (pckV p IA TA KA ic tc kc)] w fun e w' => e = .returned (.int .i64 (packZ p)) ∧ Below w.heap.size w w' := by
  obtain ⟨R, hR⟩ : ∃ R, R = packZ p := ⟨_, rfl⟩
  rw [← hR]
  unfold packZ at hR
  obtain ⟨cards, ints, texts, kinds⟩ := p
  obtain ⟨h1, h2, h3⟩ := hp
  obtain ⟨l1, l2, l3, l4, l5⟩ := hs
  simp only [pckV] at h1 h2 h3 l1 l2 l3 l4 l5 hR h256 ⊢
  have hzt := fun i => textsZ_take l3 l2 i
  have hzk := fun i => kindsZ_take l5 i h256
  obtain ⟨ni, hni⟩ : ∃ n, ints.length = n := ⟨_, rfl⟩
  obtain ⟨nt, hnt⟩ : ∃ n, texts.length = n := ⟨_, rfl⟩
  obtain ⟨nk, hnk⟩ : ∃ n, kinds.length = n := ⟨_, rfl⟩
  rw [hni] at l1 hR ⊢
  rw [hnt] at l2 ⊢
  rw [hnk] at l4 h256 ⊢
  have HBW := Lib.hid ((Below.refl w.heap.size w).alloc (Nat.le_refl _) (.cells #[.int .i64 cards, .slice IA ni ic, .slice TA nt tc, .slice KA nk kc] 75))
  have HPB := Lib.hid (Blk.new w 75 #[.int .i64 cards, .slice IA ni ic, .slice TA nt tc, .slice KA nk kc])
  have HR := Lib.hid hR
  have HT := Lib.hid h2
  have HK := Lib.hid h3
  have HNT := Lib.hid hnt
  have HNK := Lib.hid hnk
  have L3 := Lib.hid l3
  have L5 := Lib.hid l5
  have HZT := Lib.hid hzt
  have HZK := Lib.hid hzk
  clear hR h1 h2 h3 hni hnt hnk l3 l5 hzt hzk
  go_enter Tryz.func102, Tryz.ntmps102
  go_wp2_with fail
  go_loopw [3, 4] (fun sv iv wr => ∃ (i : Nat) (S : Int), i ≤ nt ∧ sv = .int .i64 S ∧ iv = .int .i64 i ∧ Hid (S = 37 + 8 * (ni : Int) + textsZ (texts.take i)) ∧ Below w.heap.size w wr ∧ Blk wr w.heap.size 75 #[.int .i64 cards, .slice IA ni ic, .slice TA nt tc, .slice KA nk kc]) (fun _ iv _ => nt - (intOf iv).toNat)
  case atStart => exact ⟨0, _, by omega, rfl, rfl, Lib.hid (by simp [textsZ]), HBW.out, HPB.out⟩
  case round =>
    obtain ⟨i, S, hi, rfl, rfl, HS, hbel, hpb⟩ := hrel
    obtain ⟨x0, x1, x2, x3, _, _, _, _⟩ := hpb.four
    by_cases hin : i < nt
    · obtain ⟨t, ht⟩ : ∃ t, texts[i]? = some t := ⟨_, List.getElem?_eq_getElem (by rw [HNT.out]; exact hin)⟩
      obtain ⟨b, off, rfl, hbl, hc⟩ := HT.out i t ht
      have hcw := (hbel.cell (p := ⟨b, _, none⟩) hbl).trans hc
      have hii : (i : Int) < nt := by omega
      have htz := L3.out t (List.mem_of_getElem? ht)
      have hS := HS.out
      obtain ⟨z1, z2⟩ := HZT.out i
      have hS1 : 0 ≤ S := by omega
      have hS2 : S ≤ 281475261923366 := by omega
      have hnx : S + 1 + (t.size : Int) = 37 + 8 * (ni : Int) + textsZ (texts.take (i + 1)) := by rw [textsZ_succ ht, hS]; omega
      have HNX := Lib.hid hnx
      have HB := Lib.hid hbel
      have HPB1 := Lib.hid hpb
      clear hc ht hbel hpb hS z1 z2 hnx HPB HBW
      go_wp2_with fail
      go_roundw
      case rel => exact ⟨i + 1, _, by omega, rfl, by go_num, HNX, HB.out, HPB1.out⟩
      case measure => (simp [intOf]; try omega)
    · have hge : (nt : Int) ≤ i := by omega
      have hS := HS.out
      rw [List.take_of_length_le (by rw [HNT.out]; omega)] at hS
      obtain ⟨z1, z2⟩ := HZT.out nt
      rw [List.take_of_length_le (by rw [HNT.out]; omega)] at z1 z2
      have HSf := Lib.hid hS
      have hS1 : 0 ≤ S := by omega
      have hS2 : S ≤ 281475261923366 := by omega
      have HB := Lib.hid hbel
      have HPB1 := Lib.hid hpb
      clear hbel hpb hS z1 z2 HPB HBW HS
      go_wp2_with fail
      go_loopw [3, 5] (fun sv iv wr => ∃ (i : Nat) (S : Int), i ≤ nk ∧ sv = .int .i64 S ∧ iv = .int .i64 i ∧ Hid (S = 37 + 8 * (ni : Int) + textsZ texts + kindsZ (kinds.take i)) ∧ Below w.heap.size w wr ∧ Blk wr w.heap.size 75 #[.int .i64 cards, .slice IA ni ic, .slice TA nt tc, .slice KA nk kc]) (fun _ iv _ => nk - (intOf iv).toNat)
      case atStart => exact ⟨0, _, by omega, rfl, rfl, Lib.hid (by simp [kindsZ, HSf.out]), HB.out, HPB1.out⟩
      case round =>
        clear x0 x1 x2 x3 HSf hS1 hS2 HB HPB1 hge hi hin
        obtain ⟨i, S, hi, rfl, rfl, HS, hbel, hpb⟩ := hrel
        obtain ⟨x0, x1, x2, x3, _, _, _, _⟩ := hpb.four
        have hkz := HZK.out i
        have htz := HZT.out nt
        rw [List.take_of_length_le (by rw [HNT.out]; omega)] at htz
        have hS := HS.out
        have hS1 : 0 ≤ S := by omega
        have hS2 : S ≤ 144396723466825478 := by omega
        by_cases hin : i < nk
        · obtain ⟨x, hx⟩ : ∃ x, kinds[i]? = some x := ⟨_, List.getElem?_eq_getElem (by rw [HNK.out]; exact hin)⟩
          obtain ⟨b, off, rfl, hbl, hxa⟩ := HK.out i x hx
          obtain ⟨TA', tc', EA, ec, c0, c1, c2, c3, c4, c5, hI, hE⟩ := hxa.below hbel hbl
          have hsm := L5.out x (List.mem_of_getElem? hx)
          have hba := (Below.refl wr.heap.size wr).alloc (Nat.le_refl _) (.cells (kndV x TA' EA tc' ec) 123)
          have hgk := Blk.new wr 123 (kndV x TA' EA tc' ec)
          have hsum := kindsZ_succ hx
          obtain ⟨nm, co, po, he, tags, effs⟩ := x
          simp only [kndV] at hgk hba c0 c1 c2 c3 c4 c5
          obtain ⟨s1, s2, s3⟩ := hsm
          simp only at s1 s2 s3 hsum hE
          have hez := fun j => effsZ_take s3 s2 j
          have HSM3 := Lib.hid s3
          obtain ⟨ng, hng⟩ : ∃ n, tags.length = n := ⟨_, rfl⟩
          obtain ⟨ne, hne⟩ : ∃ n, effs.length = n := ⟨_, rfl⟩
          rw [hng] at c4 s1 hsum hgk hba
          rw [hne] at c5 s2 hgk hba
          have hii : (i : Int) < nk := by omega
          have HSUM := Lib.hid hsum
          have HE := Lib.hid hE
          have HEZ := Lib.hid hez
          have HNE := Lib.hid hne
          have HB := Lib.hid hbel
          have HBA := Lib.hid hba
          have HGK := Lib.hid hgk
          have HPB1 := Lib.hid hpb
          have hgsz : w.heap.size ≤ wr.heap.size := hbel.size
          clear hsum hE hez hng hne hbel hba hgk hpb hx hxa hI s3 hkz htz hS
          go_wp2_with fail
          go_loopw [3, 7] (fun sv jv w3 => ∃ (j : Nat) (S' : Int), j ≤ ne ∧ sv = .int .i64 S' ∧ jv = .int .i64 j ∧ Hid (S' = S + 16 + 2 * (ng : Int) + effsZ (effs.take j)) ∧ Below wr.heap.size wr w3 ∧ Below w.heap.size w w3 ∧ Blk w3 w.heap.size 75 #[.int .i64 cards, .slice IA ni ic, .slice TA nt tc, .slice (some ⟨b, off, none⟩) nk kc] ∧ Blk w3 wr.heap.size 123 #[.int .i64 nm, .int .i64 co, .int .i64 po, .int .i64 he, .slice TA' ng tc', .slice EA ne ec]) (fun _ jv _ => ne - (intOf jv).toNat)
          case atStart => exact ⟨0, _, by omega, rfl, rfl, Lib.hid (by simp [effsZ]), HBA.out, HB.out.trans (HBA.out.mono hgsz), HPB1.out.alloc _, HGK.out⟩
          case round =>
            clear x0 x1 x2 x3 c0 c1 c2 c3 c4 c5
            obtain ⟨j, S', hj, rfl, rfl, HS', hb3, hb4, hpb, hgk⟩ := hrel
            obtain ⟨x0, x1, x2, x3, _, _, _, _⟩ := hpb.four
            obtain ⟨y0, y1, y2, y3, y4, y5⟩ := hgk.six.1
            have hez := HEZ.out j
            have hS' := HS'.out
            have hT1 : 0 ≤ S' := by omega
            have hT2 : S' ≤ 145000000000000000 := by omega
            by_cases hjn : j < ne
            · obtain ⟨e, he2⟩ : ∃ e, effs[j]? = some e := ⟨_, List.getElem?_eq_getElem (by rw [HNE.out]; exact hjn)⟩
              obtain ⟨b2, off2, rfl, hbl2, hea⟩ := HE.out j e he2
              obtain ⟨SA, sc, CA, cc, e0, e1, e2, e3, _, _⟩ := hea.below hb3 hbl2
              obtain ⟨k4, k5⟩ := HSM3.out e (List.mem_of_getElem? he2)
              have hsum := effsZ_succ he2
              obtain ⟨on, slots, code, bd⟩ := e
              simp only at e0 e1 e2 e3 k4 k5 hsum
              obtain ⟨n1, hn1⟩ : ∃ n, slots.length = n := ⟨_, rfl⟩
              obtain ⟨n2, hn2⟩ : ∃ n, code.length = n := ⟨_, rfl⟩
              rw [hn1] at e1 k4 hsum
              rw [hn2] at e2 k5 hsum
              have hjj : (j : Int) < ne := by omega
              have hnx : S' + 12 + (n1 : Int) + n2 = S + 16 + 2 * (ng : Int) + effsZ (effs.take (j + 1)) := by rw [hsum, hS']; omega
              have HNX := Lib.hid hnx
              have HB3 := Lib.hid hb3
              have HB4 := Lib.hid hb4
              have HPB := Lib.hid hpb
              have HGK3 := Lib.hid hgk
              clear he2 hea hsum hn1 hn2 hnx hb3 hb4 hpb hgk hez hS' HBA HB HPB1
              go_wp2_with fail
              go_quiet (fail)
              go_wp2_with fail
              go_roundw
              case rel => exact ⟨j + 1, _, by omega, rfl, by go_num, HNX, bdn HB3.out _, bdn HB4.out _, HPB.out.drewN _, HGK3.out.drewN _⟩
              case measure => (simp [intOf]; try omega)
            · have hge : (ne : Int) ≤ j := by omega
              rw [List.take_of_length_le (by rw [HNE.out]; omega)] at hS' hez
              have hnx : S' = 37 + 8 * (ni : Int) + textsZ texts + kindsZ (kinds.take (i + 1)) := by rw [HSUM.out, hS', HS.out]; omega
              have HNX := Lib.hid hnx
              have HB4 := Lib.hid hb4
              have HPB := Lib.hid hpb
              clear hnx hb3 hb4 hpb hez hS' hgk
              go_wp2_with fail
              exact ⟨⟨i + 1, _, by omega, rfl, by go_num, HNX, HB4.out, HPB.out⟩, by simp [intOf]; omega⟩
        · have hge : (nk : Int) ≤ i := by omega
          rw [List.take_of_length_le (by rw [HNK.out]; omega)] at hS
          have e : R = S := by rw [HR.out, hS]
          have HE := Lib.hid e
          have HB := Lib.hid hbel
          clear e hbel hpb hS hkz htz
          go_wp2_with fail
          go_ret
          exact ⟨by rw [HE.out]; rfl, HB.out⟩
end Go.Proofs.YtabpheanbomibaaGreatDoor
namespace Go.Proofs.YtabpheanbomibaaGreatDoor
open Go.RowKit
set_option linter.unusedVariables false

set_option maxRecDepth 100000 in
set_option maxHeartbeats 4000000 in
theorem check19_any (p : Pck) (IA TA KA : Option Addr) (ic tc kc : Nat) (w : World) (hp : PckAt w IA TA KA p) (hs : PckSm p) :
    Calls Tryz.prog 70 #[.agg (pckV p IA TA KA ic tc kc)] w fun e w' => e = .returned (.int .i64 (errO (checkP ltB p))) ∧ Below w.heap.size w w' := by
  obtain ⟨R, hR⟩ : ∃ R, R = errO (checkP ltB p) := ⟨_, rfl⟩
  rw [← hR]
  obtain ⟨Q1, hQ1⟩ : ∃ Q, intsP p = Q := ⟨_, rfl⟩
  obtain ⟨Q2, hQ2⟩ : ∃ Q, textsP p.texts = Q := ⟨_, rfl⟩
  have hpo := poolsC_two p
  rw [hQ1, hQ2] at hpo
  have hq1 := fun (wx : World) (h : Below w.heap.size w wx) => ints19_any p IA TA KA ic tc kc wx (hp.below h) hs
  have hq2 := fun (wx : World) (h : Below w.heap.size w wx) => texts19_any p.texts TA tc wx (hp.texts.below h) hs.texts hs.size
  have hq3 := fun (wx : World) (h : Below w.heap.size w wx) (h256 : p.kinds.length ≤ 256) => size19_any p IA TA KA ic tc kc wx (hp.below h) hs h256
  rw [hQ1] at hq1
  rw [hQ2] at hq2
  have hz := poolsC_nz ltB p
  rw [hpo] at hz
  have r1 : ∀ e, orS Q1 Q2 = some e → R = e := fun e h => by rw [hR, checkP_pools (by rw [hpo, h])]; rfl
  have r2 : orS Q1 Q2 = none → 256 < p.kinds.length → R = 56 := fun h h2 => by rw [hR, checkP_many (by rw [hpo, h]) h2]; rfl
  have r3 : orS Q1 Q2 = none → ¬ 256 < p.kinds.length → R = errO (orS (firstS (fun i => kndC p.texts.length (p.kinds.getD i knd0)) p.kinds.length) (flt (decide (1048576 < packZ p)) 20)) := fun h h2 => by rw [hR, checkP_kinds (by rw [hpo, h]) h2]
  obtain ⟨Z, hZ⟩ : ∃ Z, packZ p = Z := ⟨_, rfl⟩
  rw [hZ] at r3
  simp only [hZ] at hq3
  clear hR hQ1 hQ2 hpo hZ
  obtain ⟨cards, ints, texts, kinds⟩ := p
  obtain ⟨h1, h2, h3⟩ := hp
  obtain ⟨l1, l2, l3, l4, l5⟩ := hs
  simp only [pckV] at h1 h2 h3 l1 l2 l3 l4 l5 r1 r2 r3 hq1 hq2 hq3 ⊢
  obtain ⟨ni, hni⟩ : ∃ n, ints.length = n := ⟨_, rfl⟩
  obtain ⟨nt, hnt⟩ : ∃ n, texts.length = n := ⟨_, rfl⟩
  obtain ⟨nk, hnk⟩ : ∃ n, kinds.length = n := ⟨_, rfl⟩
  rw [hni] at l1 hq1 ⊢
  rw [hnt] at l2 r3 hq1 hq2 ⊢
  rw [hnk] at l4 r2 r3 hq1 ⊢
  simp only [hni, hnt, hnk] at hq3
  have HBW := Lib.hid ((Below.refl w.heap.size w).alloc (Nat.le_refl _) (.cells #[.int .i64 cards, .slice IA ni ic, .slice TA nt tc, .slice KA nk kc] 75))
  have HPB := Lib.hid (Blk.new w 75 #[.int .i64 cards, .slice IA ni ic, .slice TA nt tc, .slice KA nk kc])
  have HQ1 := Lib.hid hq1
  have HQ2 := Lib.hid hq2
  have HQ3 := Lib.hid hq3
  have R1 := Lib.hid r1
  have R2 := Lib.hid r2
  have R3 := Lib.hid r3
  have HK := Lib.hid h3
  have HNK := Lib.hid hnk
  have L5 := Lib.hid l5
  have HZ := Lib.hid hz
  clear r1 r2 r3 h1 h2 h3 hni hnt hnk l3 l5 hq1 hq2 hq3 hz
  go_enter Tryz.func70, Tryz.ntmps70
  go_wp2_with fail
  refine (HQ1.out _ HBW.out).mono ?_
  rintro e w1 ⟨rfl, hb1⟩
  have hpb := HPB.out.below hb1 (by simp)
  obtain ⟨x0, x1, x2, x3, _, _, _, _⟩ := hpb.four
  have HB1 := Lib.hid (HBW.out.trans (hb1.mono (by simp)))
  have HPB1 := Lib.hid hpb
  clear hb1 hpb HBW HPB
  cases Q1 with
  | some e0 =>
    obtain ⟨z1, z2, z3⟩ := HZ.out e0 rfl
    have HE := Lib.hid (R1.out e0 rfl)
    simp only [errO, Option.getD_some]
    go_wp2_with fail
    go_loopw [3, 4] (fun ev iv wr => ev = .int .i64 e0 ∧ iv = .int .i64 0 ∧ wr = w1) (fun _ _ _ => 0)
    case atStart => exact ⟨rfl, rfl, rfl⟩
    case round =>
      obtain ⟨rfl, rfl, rfl⟩ := hrel
      go_wp2_with fail
      all_goals (go_ret; exact ⟨by rw [HE.out]; rfl, HB1.out⟩)
  | none =>
    simp only [errO, Option.getD_none]
    go_wp2_with fail
    refine (HQ2.out _ HB1.out).mono ?_
    rintro e w2 ⟨rfl, hb2⟩
    have hpb := HPB1.out.below hb2 HPB1.out.lt
    clear x0 x1 x2 x3
    obtain ⟨x0, x1, x2, x3, _, _, _, _⟩ := hpb.four
    have HB2 := Lib.hid (HB1.out.trans (hb2.mono HB1.out.size))
    have HPB2 := Lib.hid hpb
    clear hb2 hpb HPB1
    cases Q2 with
    | some e0 =>
      obtain ⟨z1, z2, z3⟩ := HZ.out e0 rfl
      have HE := Lib.hid (R1.out e0 rfl)
      simp only [errO, Option.getD_some]
      go_wp2_with fail
      go_loopw [3, 4] (fun ev iv wr => ev = .int .i64 e0 ∧ iv = .int .i64 0 ∧ wr = w2) (fun _ _ _ => 0)
      case atStart => exact ⟨rfl, rfl, rfl⟩
      case round =>
        obtain ⟨rfl, rfl, rfl⟩ := hrel
        go_wp2_with fail
        all_goals (go_ret; exact ⟨by rw [HE.out]; rfl, HB2.out⟩)
    | none =>
      simp only [errO, Option.getD_none]
      by_cases h256 : (256 : Int) < nk
      · have HE := Lib.hid (R2.out rfl (by omega))
        go_wp2_with fail
        go_loopw [3, 4] (fun ev iv wr => ev = .int .i64 56 ∧ iv = .int .i64 0 ∧ wr = w2) (fun _ _ _ => 0)
        case atStart => exact ⟨rfl, rfl, rfl⟩
        case round =>
          obtain ⟨rfl, rfl, rfl⟩ := hrel
          go_wp2_with fail
          all_goals (go_ret; exact ⟨by rw [HE.out]; rfl, HB2.out⟩)
      · have RK := Lib.hid (R3.out rfl (by omega))
        have hn256 : nk ≤ 256 := by omega
        clear R1 R2 R3
        go_wp2_with fail
        go_loopw [3, 4] (fun ev iv wr => ∃ (i : Nat) (o : Option Int), i ≤ nk ∧ ev = .int .i64 (errO o) ∧ iv = .int .i64 i ∧ Hid ((o = none ∧ ∀ j, j < i → kndC nt (kinds.getD j knd0) = none) ∨ ∃ e0, o = some e0 ∧ e0 ≠ 0 ∧ R = e0) ∧ Below w.heap.size w wr ∧ Blk wr w.heap.size 75 #[.int .i64 cards, .slice IA ni ic, .slice TA nt tc, .slice KA nk kc]) (fun _ iv _ => nk - (intOf iv).toNat)
        case atStart => exact ⟨0, none, by omega, rfl, rfl, Lib.hid (.inl ⟨rfl, fun j hj => absurd hj (by omega)⟩), HB2.out, HPB2.out⟩
        case round =>
          clear x0 x1 x2 x3
          obtain ⟨i, o, hi, rfl, rfl, HO, hbel, hpb⟩ := hrel
          obtain ⟨x0, x1, x2, x3, _, _, _, _⟩ := hpb.four
          rcases HO.out with ⟨rfl, hg⟩ | ⟨e0, rfl, hne, hRe⟩
          · by_cases hin : i < nk
            · obtain ⟨x, hx⟩ : ∃ x, kinds[i]? = some x := ⟨_, List.getElem?_eq_getElem (by rw [HNK.out]; exact hin)⟩
              obtain ⟨b, off, rfl, hbl, hxa⟩ := HK.out i x hx
              obtain ⟨TA', tc', EA, ec, c0, c1, c2, c3, c4, c5, hI, hE⟩ := hxa.below hbel hbl
              have hcall := kind19_any x TA' EA tc' ec nt wr.drew (L5.out x (List.mem_of_getElem? hx)) l2 (hI.below (Below.refl _ _).drew) (hE.below (Below.refl _ _).drew)
              simp only [kndV] at hcall
              have hgd : kinds.getD i knd0 = x := getD_at hx
              obtain ⟨E, hE2⟩ : ∃ E, kndC nt x = E := ⟨_, rfl⟩
              have hnz := kndC_nz nt x
              have hEi : kndC nt (kinds.getD i knd0) = E := by rw [hgd, hE2]
              rw [hE2] at hcall hnz
              have hii : (i : Int) < nk := by omega
              have HCA := Lib.hid hcall
              have HEI := Lib.hid hEi
              have HNZ := Lib.hid hnz
              have HB := Lib.hid hbel
              have HPB := Lib.hid hpb
              have HG := Lib.hid hg
              clear hx hxa hI hE hcall hgd hE2 hnz hEi hbel hpb hg HO
              simp only [errO, Option.getD_none]
              go_wp2_with fail
              refine wp_region_text (by kernel_rfl) (by kernel_rfl) ?_
              go_wp2_with fail
              refine HCA.out.mono ?_
              rintro e w3 ⟨rfl, hb3⟩
              have HB3 := Lib.hid (HB.out.trans (((Below.refl _ _).drew.trans hb3).mono HB.out.size))
              have HPB3 := Lib.hid (HPB.out.below ((Below.refl _ _).drew.trans hb3) HPB.out.lt)
              clear hb3
              go_wp2_with fail
              refine Only.normal ?_
              cases E with
              | none =>
                have HG2 := Lib.hid (none_succ HG.out HEI.out)
                go_wp2_with fail
                go_roundw
                case rel => exact ⟨i + 1, none, by omega, rfl, by go_num, Lib.hid (.inl ⟨rfl, HG2.out⟩), HB3.out, HPB3.out⟩
                case measure => (simp [intOf]; try omega)
              | some e0 =>
                have e : R = e0 := by rw [RK.out, orS_some (firstS_some hin HG.out HEI.out)]; rfl
                have HE := Lib.hid e
                clear e
                go_wp2_with fail
                go_roundw
                case rel => exact ⟨i + 1, some e0, by omega, rfl, by go_num, Lib.hid (.inr ⟨e0, rfl, (HNZ.out e0 rfl).1, HE.out⟩), HB3.out, HPB3.out⟩
                case measure => (simp [intOf]; try omega)
            · have hge : (nk : Int) ≤ i := by omega
              have e : R = errO (flt (decide (1048576 < Z)) 20) := by rw [RK.out, orS_none (firstS_none fun j hj => hg j (by omega))]
              have HE := Lib.hid e
              have HB := Lib.hid hbel
              have hcz := HQ3.out wr hbel hn256
              have HCZ := Lib.hid hcz
              clear e hbel hpb hg HO hcz
              simp only [errO, Option.getD_none]
              go_wp2_with fail
              refine HCZ.out.mono ?_
              rintro e w3 ⟨rfl, hb3⟩
              have HB3 := Lib.hid (HB.out.trans (hb3.mono HB.out.size))
              clear hb3
              by_cases hlong : 1048576 < Z
              · have e : R = 20 := by rw [HE.out, flt_true (decide_eq_true hlong)]; rfl
                have HE2 := Lib.hid e
                clear e
                go_wp2_with fail
                go_ret
                exact ⟨by rw [HE2.out]; rfl, HB3.out⟩
              · have e : R = 0 := by rw [HE.out, flt_false (decide_eq_false hlong)]; rfl
                have HE2 := Lib.hid e
                clear e
                go_wp2_with fail
                go_ret
                exact ⟨by rw [HE2.out]; rfl, HB3.out⟩
          · have HE := Lib.hid hRe
            have HB := Lib.hid hbel
            clear hRe hbel hpb HO
            simp only [errO, Option.getD_some]
            go_wp2_with fail
            all_goals (go_ret; exact ⟨by rw [HE.out]; rfl, HB.out⟩)
end Go.Proofs.YtabpheanbomibaaGreatDoor
