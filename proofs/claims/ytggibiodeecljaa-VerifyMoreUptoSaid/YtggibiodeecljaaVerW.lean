/- tableaulaw20: rises. -/
import Derived.Test.YtggibiodeecljaaVerS
namespace Go.Proofs.Ytggibiodeecljaa
open Go.RowKit
set_option linter.unusedVariables false

theorem shapes_cell {w : World} {B : Nat} {v : Value} {L : List (Int × List Int)} (h : ShapesAt w B v L) : ∃ A c, v = .slice A L.length c ∧ ∀ (i : Nat) p, L[i]? = some p → ∃ g A2 c2, A = some ⟨g, 0, none⟩ ∧ g < w.heap.size ∧ w.cell? ⟨g, i * 2, none⟩ = some (.int .i64 p.1) ∧ w.cell? ⟨g, i * 2 + 1, none⟩ = some (.slice A2 p.2.length c2) ∧ w.ownsRow B 40 1 (.slice A2 p.2.length c2) p.2.length (p.2.map (Value.int .i8)) := by
  obtain ⟨l, ho, hl, hat⟩ := h
  obtain ⟨A, c, rfl⟩ := own_form ho
  refine ⟨A, c, by rw [hl], fun i p hi => ?_⟩
  have hil : i < l.length := by rw [hl]; exact (List.getElem?_eq_some_iff.1 hi).1
  have hx : l[i]? = some l[i] := List.getElem?_eq_getElem hil
  obtain ⟨h1, h2, h3⟩ := hat i _ p hx hi
  obtain ⟨q1, q2⟩ := shVals_at l i _ hx
  rcases ho.2 with ⟨e, hn⟩ | ⟨g, cap, cur, e, hB, hh, k1, k2, k3, k4⟩
  · omega
  injection e with e1 _ e3
  subst e1 e3
  have hb : Blk w g 70 cur := hh
  have hcur : ∀ t, t < l.length * 2 → cur[t]? = (shVals l)[t]? := fun t ht => by
    rw [← k4, List.getElem?_take, if_pos ht, Array.getElem?_toList]
  refine ⟨g, l[i].A, l[i].c, rfl, hb.lt, ?_, ?_, h3⟩
  · rw [hb.cell, hcur _ (by omega), q1, h1]
  · rw [hb.cell, hcur _ (by omega), q2, h2]
section
variable (w : World) (B : Nat) (v : Value) (L : List (Int × List Int)) (size : Nat) (high : Int)
def topV (L : List (Int × List Int)) : Int := L.foldl (fun m p => max m (p.2.length : Int)) 0
theorem topV_take {L : List (Int × List Int)} {k : Nat} {p : Int × List Int} (h : L[k]? = some p) : topV (L.take (k + 1)) = max (topV (L.take k)) (p.2.length : Int) := by
  unfold topV
  rw [List.take_add_one, h]
  simp
set_option maxRecDepth 100000 in
set_option maxHeartbeats 4000000 in
theorem rises_any (h : ShapesAt w B v L) (hlen : L.length ≤ 100000) (hr : L.Pairwise (fun p q => p.1 < q.1)) (hb : ∀ p ∈ L, 0 ≤ p.1 ∧ p.1 < size) (hsz : size ≤ 100000) (h256 : ∀ p ∈ L, p.2.length ≤ 256) (hh : topV L = high) (hh2 : high ≤ 256) :
    Calls Try.prog 34 #[v, .int .i64 high, .int .i64 size] w fun e w' => e = .returned (.bool true) ∧ ∃ n, w' = w.drewN n := by
  obtain ⟨A, c, rfl, hcell⟩ := shapes_cell h
  obtain ⟨n, hn⟩ : ∃ n, L.length = n := ⟨_, rfl⟩
  rw [hn] at hlen ⊢
  have HN := Lib.hid hn
  have HC := Lib.hid hcell
  have HR := Lib.hid hr
  have HB := Lib.hid hb
  have HH := Lib.hid hh
  have H2 := Lib.hid h256
  clear h hn hcell hr hb hh h256
  have d0 : decide (high ≤ 256) = true := by simpa using hh2
  go_enter Try.func34, Try.ntmps34
  go_wp2_with fail
  go_loopw [7, 8] (fun mv iv wr => ∃ k : Nat, k ≤ n ∧ iv = .int .i64 k ∧ mv = .int .i64 (topV (L.take k)) ∧ ∃ m, wr = w.drewN m) (fun _ iv _ => n - (intOf iv).toNat)
  case atStart => exact ⟨0, by omega, rfl, rfl, 0, rfl⟩
  case round =>
    obtain ⟨k, hk, rfl, rfl, m, rfl⟩ := hrel
    by_cases hlt : k < n
    · obtain ⟨p, hp⟩ : ∃ p, L[k]? = some p := ⟨_, List.getElem?_eq_getElem (by rw [HN.out]; exact hlt)⟩
      obtain ⟨g, A2, c2, rfl, hg, k1, k2, _⟩ := HC.out k p hp
      obtain ⟨pa, ps⟩ := p
      simp only at k1 k2
      have hpm := List.mem_of_getElem? hp
      obtain ⟨h0, h1⟩ := HB.out _ hpm
      have hp2 := H2.out _ hpm
      simp only at h0 h1 hp2
      have hnx := topV_take hp
      simp only at hnx
      obtain ⟨len, hlen2⟩ : ∃ len, ps.length = len := ⟨_, rfl⟩
      rw [hlen2] at k2 hnx hp2
      have HNX := Lib.hid hnx
      obtain ⟨mo, hmo⟩ : ∃ mo, topV (L.take k) = mo := ⟨_, rfl⟩
      rw [hmo] at HNX ⊢
      have e1 : decide (pa < 0) = false := by simpa using h0
      have e2 : decide ((size : Int) ≤ pa) = false := by simpa using h1
      by_cases k0 : k = 0
      · subst k0
        clear hnx hlen2 hmo hp
        go_wp2_with fail
        go_quiet (fail)
        go_wp2_with fail
        all_goals
          go_roundw
          case rel => exact ⟨1, by omega, by go_num, by rw [HNX.out], m + nq, rfl⟩
          case measure => (simp [intOf]; try omega)
      · obtain ⟨j, rfl⟩ : ∃ j, k = j + 1 := ⟨k - 1, by omega⟩
        obtain ⟨p2, hp2'⟩ : ∃ p, L[j]? = some p := ⟨_, List.getElem?_eq_getElem (by rw [HN.out]; omega)⟩
        obtain ⟨g2, A3, c3, e, hg2, j1, j2, _⟩ := HC.out j p2 hp2'
        injection e with e
        injection e with e
        subst e
        obtain ⟨pb, ps2⟩ := p2
        have hlt2 : pb < pa := by
          have h3 := List.pairwise_iff_getElem.1 HR.out j (j + 1) (by rw [HN.out]; omega) (by rw [HN.out]; omega) (by omega)
          have h4 := (List.getElem?_eq_some_iff.1 hp).2
          have h5 := (List.getElem?_eq_some_iff.1 hp2').2
          rw [h4, h5] at h3
          exact h3
        simp only at j1 j2
        have e3 : decide (pa ≤ pb) = false := by simpa using hlt2
        clear hnx hlen2 hmo hp hp2'
        go_wp2_with fail
        go_quiet (fail)
        go_wp2_with fail
        all_goals
          go_roundw
          case rel => exact ⟨j + 1 + 1, by omega, by go_num, by rw [HNX.out], m + nq, rfl⟩
          case measure => (simp [intOf]; try omega)
    · have he : k = n := by omega
      have hf : topV (L.take k) = high := by rw [List.take_of_length_le (by rw [HN.out]; omega)]; exact HH.out
      rw [hf]
      have HF := Lib.hid hf
      clear hf
      go_wp2_with fail
      go_ret
      exact ⟨rfl, _, rfl⟩
end
end Go.Proofs.Ytggibiodeecljaa
