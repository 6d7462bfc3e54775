/- looker.blocks. -/
import Derived.Test.YtggibiodeecljaaStmt
namespace Go.Proofs.Ytggibiodeecljaa
open Go.RowKit

/-- The contract of looker.stmt (or block) at one place, nothing bad so far. -/
def SAt (F B kb tb toff cap : Nat) (ts : List Node) (r : Nat → LSt → LSt) (i : Nat) : Prop :=
  ∀ (s : LSt) (w : World), s.bad = false → Good s → s.slots.length ≤ 2 + 3 * i → LK w B kb (.slice (some ⟨tb, toff, none⟩) ts.length cap) s → NodesAt w tb toff ts →
    Calls Try.prog F #[.pointer (some ⟨kb, 0, none⟩), .int .i64 i] w fun e w' => e = .returned (.tuple #[]) ∧ LK w' B kb (.slice (some ⟨tb, toff, none⟩) ts.length cap) (r i s) ∧ Frm B [132, 40] w w'

section
variable (B kb tb toff cap : Nat) (ts : List Node) (recS recB : Nat → LSt → LSt)

set_option maxRecDepth 100000 in
set_option maxHeartbeats 1600000 in
theorem blocks_any (htb : tb < B) (hGS : ∀ i s, Good s → Good (recS i s)) (hGB : ∀ i s, Good s → Good (recB i s)) (hLS : Lens ts recS) (hLB : Lens ts recB)
    (K l : List Nat) (g cK base off c p q : Nat) (s : LSt) (w : World) (hl : ∀ k, k < l.length → K[off + k]? = l[k]?) (hlen : l.length ≤ 1000000)
    (hown : w.ownsRow base 3 1 (.slice (some ⟨g, 0, none⟩) K.length cK) K.length (K.map fun j : Nat => Value.int .i64 j))
    (he : ∀ j ∈ l, j < ts.length ∧ SAt 115 B kb tb toff cap ts recS j ∧ SAt 79 B kb tb toff cap ts recB j)
    (hg : Good s) (hc : Chain ts p q l) (hs : s.slots.length ≤ 2 + 3 * p) (h : LK w B kb (.slice (some ⟨tb, toff, none⟩) ts.length cap) s) (hn : NodesAt w tb toff ts) :
    Calls Try.prog 162 #[.pointer (some ⟨kb, 0, none⟩), .slice (some ⟨g, off, none⟩) l.length c] w fun e w' => e = .returned (.tuple #[]) ∧
      LK w' B kb (.slice (some ⟨tb, toff, none⟩) ts.length cap) (blocksF ts recS recB 0 l s) ∧ Frm B [132, 40] w w' := by
  obtain ⟨R, hR⟩ : ∃ R, R = blocksF ts recS recB 0 l s := ⟨_, rfl⟩
  rw [← hR]
  obtain ⟨n, hnl⟩ : ∃ n, l.length = n := ⟨_, rfl⟩
  have HR := Lib.hid hR
  have HC := Lib.hid hc
  have HG := Lib.hid hg
  have HH := Lib.hid h
  have HE := Lib.hid he
  have HO := Lib.hid hown
  have HL := Lib.hid hl
  have HNL := Lib.hid hnl
  have HGS := Lib.hid hGS
  have HGB := Lib.hid hGB
  have HLS := Lib.hid hLS
  have HLB := Lib.hid hLB
  rw [hnl] at hlen ⊢
  clear hR hc hg h he hown hl hnl hGS hGB hLS hLB
  go_enter Try.func162, Try.ntmps162
  go_wp2_with fail
  go_loopw [4, 5, 8, 16, 21] (fun _ _ iv _ _ wr => ∃ (k p' : Nat) (s' : LSt), k ≤ n ∧ iv = .int .i64 k ∧ Hid (R = blocksF ts recS recB k (l.drop k) s') ∧ Hid (Good s') ∧ Hid (Chain ts p' q (l.drop k)) ∧ s'.slots.length ≤ 2 + 3 * p' ∧
      LK wr B kb (.slice (some ⟨tb, toff, none⟩) ts.length cap) s' ∧ Frm B [132, 40] w wr)
    (fun _ _ iv _ _ _ => n - (intOf iv).toNat)
  case atStart => exact ⟨0, p, s, by omega, rfl, HR, HG, HC, hs, HH.out, Frm.refl _ _ _⟩
  case round =>
    obtain ⟨k, p', s', hk, rfl, HR', HG', HC', hs', hlk, hfr⟩ := hrel
    by_cases hlt : k < n
    · obtain ⟨j, hj⟩ : ∃ j, l[k]? = some j := ⟨_, List.getElem?_eq_getElem (by rw [HNL.out]; exact hlt)⟩
      obtain ⟨hjl, heS, heB⟩ := HE.out j (List.mem_of_getElem? hj)
      obtain ⟨y, hy⟩ : ∃ y, ts[j]? = some y := ⟨_, List.getElem?_eq_getElem hjl⟩
      have hgj : ts.getD j node0 = y := by rw [List.getD_eq_getElem?_getD, hy]; rfl
      have hdrop : l.drop k = j :: l.drop (k + 1) := by
        obtain ⟨h2, h3⟩ := List.getElem?_eq_some_iff.1 hj
        rw [List.drop_eq_getElem_cons h2, h3]
      have hKj : K[off + k]? = some j := by rw [HL.out k (by rw [HNL.out]; exact hlt), hj]
      have hKl : off + k < K.length := (List.getElem?_eq_some_iff.1 hKj).1
      have hnr := hfr.nodes hn htb
      have hcell : wr.cell? ⟨g, off + k, none⟩ = some (.int .i64 j) := by
        rw [(hfr.own HO.out (by decide)).cellAt (off + k) (by omega)]
        simp [hKj]
      have c0 := hnr.op hy
      obtain ⟨hk0, hk3⟩ := hlk.cells
      have hR1 := HR'.out
      rw [hdrop, blocksF, hgj] at hR1
      have hC1 := HC'.out
      rw [hdrop] at hC1
      obtain ⟨rfl, g1, g2, g3⟩ := hC1
      have HR1 := Lib.hid hR1
      have HC1 := Lib.hid g3
      have HLKx := Lib.hid hlk
      have HFR := Lib.hid hfr
      have HNR := Lib.hid hnr
      have HES := Lib.hid heS
      have HEB := Lib.hid heB
      clear hR1 g3 hlk hfr hnr heS heB hdrop hj hgj hy hKj
      cases hb : s'.bad with
      | true =>
        rw [hb] at hk3
        go_wp2_with fail
        go_roundw
        case rel =>
          refine ⟨k + 1, _, s', by omega, by go_num, ?_, HG', HC1, ?_, HLKx.out, HFR.out⟩
          · have := HR1.out
            rw [if_pos hb] at this
            exact this
          · omega
        case measure => (simp [intOf]; try omega)
      | false =>
        rw [hb] at hk3
        by_cases hq : k = 1 ∧ y.op = 13
        · obtain ⟨rfl, hq2⟩ := hq
          have q2 := beq_true_of hq2
          have HQ := Lib.hid hq2
          clear hq2
          go_wp2_with fail
          refine (HES.out s' wr hb HG'.out hs' HLKx.out HNR.out).mono ?_
          rintro e w3 ⟨rfl, h3, f3⟩
          go_wp2_with fail
          go_roundw
          case rel =>
            refine ⟨1 + 1, _, recS j s', by omega, by go_num, ?_, HGS.out _ _ HG'.out, HC1, HLS.out _ _ g1 g2 hs', h3, HFR.out.trans f3⟩
            have := HR1.out
            rw [if_neg (by rw [hb]; decide), if_pos (by first | exact ⟨rfl, HQ.out⟩ | exact ⟨trivial, HQ.out⟩ | exact HQ.out)] at this
            exact this
          case measure => (simp [intOf]; try omega)
        · have hlast : R = blocksF ts recS recB (k + 1) (l.drop (k + 1)) (recB j s') := by
            have := HR1.out
            rw [if_neg (by rw [hb]; decide), if_neg hq] at this
            exact this
          have HLast := Lib.hid hlast
          clear hlast
          by_cases hk1 : k = 1
          · subst hk1
            have q2 : (y.op == 13) = false := beq_false_of fun h => hq ⟨rfl, h⟩
            clear hq
            go_wp2_with fail
            refine (HEB.out s' wr hb HG'.out hs' HLKx.out HNR.out).mono ?_
            rintro e w3 ⟨rfl, h3, f3⟩
            go_wp2_with fail
            go_roundw
            case rel => exact ⟨1 + 1, _, recB j s', by omega, by go_num, HLast, HGB.out _ _ HG'.out, HC1, HLB.out _ _ g1 g2 hs', h3, HFR.out.trans f3⟩
            case measure => (simp [intOf]; try omega)
          · have q1 : ((k : Int) == 1) = false := beq_false_of (by omega)
            clear hq
            go_wp2_with fail
            refine (HEB.out s' wr hb HG'.out hs' HLKx.out HNR.out).mono ?_
            rintro e w3 ⟨rfl, h3, f3⟩
            go_wp2_with fail
            go_roundw
            case rel => exact ⟨k + 1, _, recB j s', by omega, by go_num, HLast, HGB.out _ _ HG'.out, HC1, HLB.out _ _ g1 g2 hs', h3, HFR.out.trans f3⟩
            case measure => (simp [intOf]; try omega)
    · have hkn : k = n := by omega
      have hfin : R = s' := by
        rw [HR'.out, List.drop_of_length_le (by rw [HNL.out]; omega), blocksF]
      have HFin := Lib.hid hfin
      clear hfin
      go_wp2_with fail
      go_end0
      exact ⟨rfl, by rw [HFin.out]; exact hlk, hfr⟩
end
end Go.Proofs.Ytggibiodeecljaa
