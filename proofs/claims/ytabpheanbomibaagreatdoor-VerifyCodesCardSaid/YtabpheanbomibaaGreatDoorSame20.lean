/- tableaulaw20: same: two rows of shapes compared. -/
import Derived.BigQuiet
import Derived.Test.YtabpheanbomibaaGreatDoorR20h
import Derived.Test.YtabpheanbomibaaGreatDoorVerX
namespace Go.Proofs.YtabpheanbomibaaGreatDoor
open Go.RowKit
set_option linter.unusedVariables false

theorem shapesR_cell {w : World} {B : Nat} {v : Value} {L : List (Int × List Int)} (h : ShapesR w B v L) : ∃ A c, v = .slice A L.length c ∧ ∀ (i : Nat) p, L[i]? = some p → ∃ g A2 c2, A = some ⟨g, 0, none⟩ ∧ g < w.heap.size ∧ w.cell? ⟨g, i * 2, none⟩ = some (.int .i64 p.1) ∧ w.cell? ⟨g, i * 2 + 1, none⟩ = some (.slice A2 p.2.length c2) ∧ w.ownsRow B 82 1 (.slice A2 p.2.length c2) p.2.length (p.2.map (Value.int .i8)) := by
  obtain ⟨l, ho, hl, hat⟩ := h
  obtain ⟨A, c, rfl⟩ := own_form ho
  refine ⟨A, c, by rw [hl], fun i p hi => ?_⟩
  have hil : i < l.length := by rw [hl]; exact (List.getElem?_eq_some_iff.1 hi).1
  have hx : l[i]? = some l[i] := List.getElem?_eq_getElem hil
  obtain ⟨h1, h2, h3⟩ := hat i _ p hx hi
  obtain ⟨q1, q2⟩ := shVals_at l i _ hx
  rcases ho.2 with ⟨e, hn⟩ | ⟨g, cap, cur, e, hB, hh, k1, k2, k3, k4⟩
  · omega
  injection e with e1 _ e3
  subst e1 e3
  have hb : Blk w g 118 cur := hh
  have hcur : ∀ t, t < l.length * 2 → cur[t]? = (shVals l)[t]? := fun t ht => by
    rw [← k4, List.getElem?_take, if_pos ht, Array.getElem?_toList]
  refine ⟨g, l[i].A, l[i].c, rfl, hb.lt, ?_, ?_, h3⟩
  · rw [hb.cell, hcur _ (by omega), q1, h1]
  · rw [hb.cell, hcur _ (by omega), q2, h2]
set_option maxRecDepth 100000 in
set_option maxHeartbeats 8000000 in
/-- Equal ones are found the same. -/
theorem same20_any (w : World) (B C : Nat) (v u : Value) (L : List (Int × List Int)) (h : ShapesAt w B v L) (hr : ShapesR w C u L) (hlen : L.length ≤ 100000) (h256 : ∀ p ∈ L, p.2.length ≤ 256) :
    Calls Tryz.prog 10 #[v, u] w fun e w' => e = .returned (.bool true) ∧ ∃ n, w' = w.drewN n := by
  obtain ⟨A1, c1, rfl, hc1⟩ := shapes_cell h
  obtain ⟨A2, c2, rfl, hc2⟩ := shapesR_cell hr
  obtain ⟨n, hn⟩ : ∃ n, L.length = n := ⟨_, rfl⟩
  rw [hn] at hlen ⊢
  have HN := Lib.hid hn
  have HC1 := Lib.hid hc1
  have HC2 := Lib.hid hc2
  have H2 := Lib.hid h256
  clear h hr hn hc1 hc2 h256
  have hnn : ((n : Int) != (n : Int)) = false := by simp
  go_enter Tryz.func10, Tryz.ntmps10
  go_wp2_with fail
  go_loopw [5] (fun iv wr => ∃ k : Nat, k ≤ n ∧ iv = .int .i64 k ∧ ∃ m, wr = w.drewN m) (fun iv _ => n - (intOf iv).toNat)
  case atStart => exact ⟨0, by omega, rfl, 0, rfl⟩
  case round =>
    obtain ⟨k, hk, rfl, m, rfl⟩ := hrel
    by_cases hlt : k < n
    · obtain ⟨p, hp⟩ : ∃ p, L[k]? = some p := ⟨_, List.getElem?_eq_getElem (by rw [HN.out]; exact hlt)⟩
      obtain ⟨g1, B1, d1, rfl, hg1, k10, k11, o1⟩ := HC1.out k p hp
      obtain ⟨g2, B2, d2, rfl, hg2, k20, k21, o2⟩ := HC2.out k p hp
      obtain ⟨pa, ps⟩ := p
      simp only at k10 k11 k20 k21 o1 o2
      have hp256 := H2.out _ (List.mem_of_getElem? hp)
      simp only at hp256
      have s1 := (Row8.own o1).smalls
      have s2 := (Row8.own o2).smalls
      obtain ⟨W, hW⟩ : ∃ W, W = w.drewN m := ⟨_, rfl⟩
      have hcj : ∀ a, W.cell? a = w.cell? a := fun a => by rw [hW]; rfl
      have heq := fun j => eqSmalls_any B1 B2 d1 d2 ps ps (W.drewN j) (by omega) (by omega) (fun i x hi => by obtain ⟨b, o, e1, _, e3⟩ := s1 i x hi; exact ⟨b, o, e1, (show (W.drewN j).cell? _ = _ from (hcj _).trans e3)⟩) (fun i x hi => by obtain ⟨b, o, e1, _, e3⟩ := s2 i x hi; exact ⟨b, o, e1, (show (W.drewN j).cell? _ = _ from (hcj _).trans e3)⟩)
      simp only [decide_true] at heq
      obtain ⟨len, hln⟩ : ∃ len, ps.length = len := ⟨_, rfl⟩
      rw [hln] at k11 k21
      simp only [hln] at heq
      rw [← hcj] at k10 k11 k20 k21
      rw [← hW]
      have HW := Lib.hid hW
      have HEQ := Lib.hid heq
      have hkI : (k : Int) < n := by omega
      have hpp : (pa != pa) = false := by simp
      clear hp o1 o2 s1 s2 heq hln hcj hW hp256
      go_wp2_with fail
      go_quiet ((go_at_call 13; exact Calls.quiet_of (HEQ.out _)))
      go_wp2_with fail
      go_roundw
      case rel => exact ⟨k + 1, by omega, by go_num, m + nq, by rw [HW.out, World.drewN_drewN]⟩
      case measure => (simp [intOf]; try omega)
    · go_wp2_with fail
      go_ret
      exact ⟨rfl, _, rfl⟩
end Go.Proofs.YtabpheanbomibaaGreatDoor
