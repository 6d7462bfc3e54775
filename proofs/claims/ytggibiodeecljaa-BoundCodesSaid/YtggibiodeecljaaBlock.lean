/- looker.block. -/
import Derived.Test.YtggibiodeecljaaStmt2
namespace Go.Proofs.Ytggibiodeecljaa
open Go.RowKit

/-- A slot is forgotten. -/
theorem LK.forgot {w w' : World} {B kb mb : Nat} {tv : Value} {s : LSt} (h : LK w B kb tv s) {n : Int} (hm : MK keyI w mb s.seen) (hmb : B ≤ mb) (hc : w.cell? ⟨kb, 2, none⟩ = some (.map (some mb))) (hm' : MK keyI w' mb (upd keyI s.seen n none)) (hg : w.grownBy w' (some mb)) (T : List TypeId) :
    LK w' B kb tv (forget n s) ∧ Frm B T w w' := by
  have hs := h.size
  obtain ⟨sv, mb2, h1, h2, h3, h4, h5⟩ := h
  have e : mb2 = mb := by
    have := (h3.cell 2).symm.trans hc
    injection this with this
    injection this with this
    injection this
  subst e
  exact ⟨⟨sv, mb2, h1, h2, h3.grown hg (by intro e; injection e with e; exact MK.blk_ne h4 h3 e.symm), hm', h5.kept hg (.inr (MK.own_ne h4 h5))⟩,
    (Frm.refl B T w).map hm hmb hg (by omega)⟩

section
variable (B kb tb toff cap : Nat) (ts : List Node) (recS : Nat → LSt → LSt)

set_option maxRecDepth 100000 in
set_option maxHeartbeats 3200000 in
theorem block_any (htb : tb < B) (hl : ts.length ≤ 100000) (hGS : ∀ i s, Good s → Good (recS i s)) (hLS : Lens ts recS) (i : Nat) (hi : i < ts.length) (hbe : 0 ≤ behind ts i)
    (he : ∀ j ∈ kidsOf ts i, j < ts.length ∧ SAt 115 B kb tb toff cap ts recS j) :
    SAt 79 B kb tb toff cap ts (blockF ts recS) i := by
  intro s w hb hg hs h hn
  obtain ⟨x, hx⟩ : ∃ x, ts[i]? = some x := ⟨_, List.getElem?_eq_getElem hi⟩
  have hgx : ts.getD i node0 = x := by rw [List.getD_eq_getElem?_getD, hx]; rfl
  obtain ⟨slots, seen, bad⟩ := s
  simp only at hb
  subst hb
  have c0 := hn.op hx
  obtain ⟨k0, k3⟩ := h.cells
  simp only at k3
  obtain ⟨hBk, hks⟩ := h.size
  have HH := Lib.hid h
  have HN := Lib.hid hn
  have HX := Lib.hid hx
  have HGX := Lib.hid hgx
  have HE := Lib.hid he
  have HG := Lib.hid hg
  have HGS := Lib.hid hGS
  have HLS := Lib.hid hLS
  have HS := Lib.hid hs
  have HBE := Lib.hid hbe
  clear h hn hx hgx he hg hGS hLS hs hbe
  by_cases hop : x.op = 10
  · have q1 := beq_true_of hop
    cases hlk : likeB x 0 0 0 with
    | false =>
      have hR : blockF ts recS i ⟨slots, seen, false⟩ = ⟨slots, seen, true⟩ := by
        unfold blockF
        simp only [HGX.out, hlk]
        rw [if_neg (by simp)]
        rfl
      rw [hR]
      have HLB := Lib.hid hlk
      clear hop hlk hR
      go_enter Try.func79, Try.ntmps79
      go_wp2_with fail
      refine (must_yes B kb _ slots seen _ HH.out).mono ?_
      rintro e w1 ⟨rfl, h1, f1⟩
      have n1 := f1.nodes HN.out htb
      have H1 := Lib.hid h1
      have F1 := Lib.hid f1
      have N1 := Lib.hid n1
      clear h1 f1 n1
      go_wp2_with fail
      refine (like_no B kb tb toff cap ts slots seen i x 0 0 0 _ false HLB.out H1.out HX.out N1.out hl).mono ?_
      rintro e w2 ⟨rfl, h2, f2⟩
      go_wp2_with fail
      refine bodyPost_ret (results_none rfl _ _ _) rfl ?_
      exact ⟨rfl, h2, (F1.out.trans f2).more (by simp)⟩
    | true =>
      obtain ⟨R, hR⟩ : ∃ R, R = blockF ts recS i ⟨slots, seen, false⟩ := ⟨_, rfl⟩
      rw [← hR]
      have hR2 : R = blockLoop ts recS (kidsOf ts i) [] ⟨slots, seen, false⟩ := by
        rw [hR]
        unfold blockF
        simp only [HGX.out, hlk]
        rw [if_pos ⟨hop, trivial⟩]
      obtain ⟨n, hnk⟩ : ∃ n, (kidsOf ts i).length = n := ⟨_, rfl⟩
      have hnl : n ≤ 100000 := by
        have h1 := kidsOf_chain HBE.out
        have h2 : ∀ (l : List Nat) (p q : Nat), Chain ts p q l → p + l.length ≤ q := fun l => by
          induction l with
          | nil => intro p q h; simp only [Chain] at h; simp; omega
          | cons k r ih =>
            intro p q h
            have := ih _ _ h.2.2.2
            have := h.2.2.1
            simp only [List.length_cons]; omega
        have h3 := h2 _ _ _ h1
        have h4 : (behind ts i).toNat ≤ ts.length := by
          have := HBE.out
          rw [behind_eq] at this ⊢
          rcases hz : (sizes ts.length ts)[i]? with _ | _ | z <;> rw [hz] at this <;> simp only at this ⊢
          · omega
          · omega
          · have := size_pos hz; omega
        omega
      have HLB := Lib.hid hlk
      have HR := Lib.hid hR2
      have HK := Lib.hid hnk
      clear hop hlk hR hR2 hnk
      go_enter Try.func79, Try.ntmps79
      go_wp2_with fail
      refine (must_yes B kb _ slots seen _ HH.out).mono ?_
      rintro e w1 ⟨rfl, h1, f1⟩
      have n1 := f1.nodes HN.out htb
      have H1 := Lib.hid h1
      have F1 := Lib.hid f1
      have N1 := Lib.hid n1
      clear h1 f1 n1
      go_wp2_with fail
      refine (like_yes B kb tb toff cap ts slots seen i x 0 0 0 _ HLB.out H1.out HX.out N1.out hl).mono ?_
      rintro e w2 ⟨rfl, h2, f2⟩
      obtain ⟨k0, k3⟩ := h2.cells
      have n2 := f2.nodes N1.out htb
      have hz2 := h2.size
      have H2 := Lib.hid h2
      have F2 := Lib.hid (F1.out.trans f2)
      have N2 := Lib.hid n2
      clear h2 f2 n2
      go_wp2_with fail
      refine (kids_any tb toff cap ts i _ hl N2.out (by omega) hi).mono ?_
      rintro e w3 ⟨kv, rfl, hown, hbel⟩
      rw [HK.out] at hown
      obtain ⟨A, c, rfl⟩ := own_form hown
      have h3 := H2.out.below hbel (Nat.le_refl _)
      have f3 : Frm B [132, 40] w w3 := (F2.out.more (by simp)).trans (Frm.of_below hbel (by omega))
      have hsz3 := hbel.size
      have HOW := Lib.hid hown
      have HZ3 := Lib.hid hsz3
      have H3 := Lib.hid h3
      have F3 := Lib.hid f3
      clear hown h3 f3 hbel
      go_wp2_with fail
      go_loopw [4, 6, 34] (fun ov _ iv wr => ∃ (k p' : Nat) (own : List Int) (s' : LSt), w3.heap.size ≤ wr.heap.size ∧ k ≤ n ∧ own.length ≤ k ∧ iv = .int .i64 k ∧ Hid (R = blockLoop ts recS ((kidsOf ts i).drop k) own s') ∧ Hid (Good s') ∧ Hid (Chain ts p' (behind ts i).toNat ((kidsOf ts i).drop k)) ∧ s'.slots.length ≤ 2 + 3 * p' ∧
          LK wr B kb (.slice (some ⟨tb, toff, none⟩) ts.length cap) s' ∧ Frm B [132, 40] w wr ∧ wr.ownsRow w3.heap.size 3 1 ov own.length (own.map (Value.int .i64)) ∧ wr.ownsRow w2.heap.size 3 1 (.slice A n c) n ((kidsOf ts i).map fun j : Nat => Value.int .i64 j))
        (fun _ _ iv _ => n - (intOf iv).toNat)
      case atStart => exact ⟨0, i + 1, [], ⟨slots, seen, false⟩, by omega, by omega, by simp, rfl, HR, HG, kidsOf_chain HBE.out, by have := HS.out; simp only at this ⊢; omega, H3.out, F3.out, World.ownsRow_nil _ _ _ _, HOW.out⟩
      case round =>
        obtain ⟨k, p', own, s', hw3, hk, hol, rfl, HR', HG', HC', hs', hlk, hfr, hown, hkid⟩ := hrel
        obtain ⟨ol, hol2⟩ : ∃ ol, own.length = ol := ⟨_, rfl⟩
        rw [hol2] at hown hol
        obtain ⟨A2, c2, rfl⟩ := own_form hown
        obtain ⟨kc0, kc3⟩ := hlk.cells
        by_cases hlt : k < n
        · obtain ⟨j, hj⟩ : ∃ j, (kidsOf ts i)[k]? = some j := ⟨_, List.getElem?_eq_getElem (by rw [HK.out]; exact hlt)⟩
          obtain ⟨hjl, heS⟩ := HE.out j (List.mem_of_getElem? hj)
          obtain ⟨y, hy⟩ : ∃ y, ts[j]? = some y := ⟨_, List.getElem?_eq_getElem hjl⟩
          have hgj : ts.getD j node0 = y := by rw [List.getD_eq_getElem?_getD, hy]; rfl
          have hdrop : (kidsOf ts i).drop k = j :: (kidsOf ts i).drop (k + 1) := by
            obtain ⟨h2, h3⟩ := List.getElem?_eq_some_iff.1 hj
            rw [List.drop_eq_getElem_cons h2, h3]
          obtain ⟨gk, hgk, hcA⟩ : ∃ gk, A = some ⟨gk, 0, none⟩ ∧ wr.cell? ⟨gk, k, none⟩ = some (.int .i64 j) := by
            obtain ⟨A', c', e1, h0⟩ := kids_form hkid
            injection e1 with e1 e2 e3
            subst e1
            obtain ⟨gk, h3, _, h4⟩ := h0 (by omega)
            refine ⟨gk, h3, ?_⟩
            rw [h4.cellAt k (by omega)]
            simp [hj]
          subst hgk
          have HKW : Hid (w3.ownsRow w2.heap.size 3 1 (.slice (some ⟨gk, 0, none⟩) n c) n ((kidsOf ts i).map fun j : Nat => Value.int .i64 j)) := HOW.out
          have hR1 := HR'.out
          rw [hdrop, blockLoop, hgj] at hR1
          have hC1 := HC'.out
          rw [hdrop] at hC1
          obtain ⟨rfl, g1, g2, g3⟩ := hC1
          have hnr := hfr.nodes HN.out htb
          have HR1 := Lib.hid hR1
          have HC1 := Lib.hid g3
          have HLKx := Lib.hid hlk
          have HFR := Lib.hid hfr
          have HNR := Lib.hid hnr
          have HES := Lib.hid heS
          have HOL := Lib.hid hol2
          have HOWN := Lib.hid hown
          have HKID := Lib.hid hkid
          have HY := Lib.hid hy
          have HGJ := Lib.hid hgj
          clear hR1 g3 hlk hfr hnr heS hdrop hj hgj hy hol2 hown hkid
          cases hbb : s'.bad with
          | true =>
            rw [hbb] at kc3
            go_wp2_with fail
            refine bodyPost_ret (results_none rfl _ _ _) rfl ?_
            have hfin := HR1.out
            rw [if_pos hbb] at hfin
            exact ⟨rfl, by rw [hfin]; exact HLKx.out, HFR.out⟩
          | false =>
            rw [hbb] at kc3
            go_wp2_with fail
            refine (HES.out s' wr hbb HG'.out hs' HLKx.out HNR.out).mono ?_
            rintro e w4 ⟨rfl, h4, f4⟩
            obtain ⟨kd0, kd3⟩ := h4.cells
            have n4 := f4.nodes HNR.out htb
            have d0 := n4.op HY.out
            have d2 := n4.n HY.out
            have hown4 := f4.own HOWN.out (by decide)
            have hkid4 := f4.own HKID.out (by decide)
            have hsz4 := f4.size
            have H4 := Lib.hid h4
            have F4 := Lib.hid (HFR.out.trans f4)
            have N4 := Lib.hid n4
            have OW4 := Lib.hid hown4
            have KD4 := Lib.hid hkid4
            have hnext : R = blockLoop ts recS ((kidsOf ts i).drop (k + 1)) (if y.op = 11 then own ++ [y.n] else own) (recS j s') := by
              have := HR1.out
              rw [if_neg (by rw [hbb]; decide)] at this
              exact this
            have HNX := Lib.hid hnext
            clear h4 f4 n4 hown4 hkid4 hnext
            cases hlet : (y.op == 11) with
            | true =>
              have hy11 : y.op = 11 := by simpa using hlet
              have HY11 := Lib.hid hy11
              clear hy11
              go_wp2_with (at_builtin; go_loud (refine wpList_append1 Try.elInts rfl _ _ rfl w3.heap.size w4 [.int .i64 y.n] rfl _ _ _ rfl OW4.out rfl rfl (by simp [Value.oneCell']) (by unfold maxLen; omega) (by omega) (by omega) ?_; intro v5 w5 hown5 hg5))
              go_roundw
              case rel =>
                refine ⟨k + 1, _, own ++ [y.n], recS j s', Nat.le_trans (by omega) hg5.size, by omega, by rw [List.length_append, HOL.out]; simp; omega, by go_num, ?_, HGS.out _ _ HG'.out, HC1, HLS.out _ _ g1 g2 hs', H4.out.grownInts OW4.out hg5, F4.out.grownNew OW4.out hg5 (Nat.le_trans F2.out.size HZ3.out) (by omega), ?_, KD4.out.kept hg5 ?_⟩
                · have := HNX.out
                  rw [if_pos HY11.out] at this
                  exact this
                · rw [List.length_append, HOL.out, List.map_append]
                  exact hown5
                · right
                  intro e5
                  have l1 := OW4.out.lt gk e5.symm
                  have l2 := KD4.out.lt gk rfl
                  have l3 := HKW.out.lt gk rfl
                  omega
              case measure => (simp [intOf]; try omega)
            | false =>
              have hy11 : ¬ y.op = 11 := by simpa using hlet
              have HY11 := Lib.hid hy11
              clear hy11
              go_wp2_with fail
              go_roundw
              case rel =>
                refine ⟨k + 1, _, own, recS j s', by omega, by omega, by rw [HOL.out]; omega, by go_num, ?_, HGS.out _ _ HG'.out, HC1, HLS.out _ _ g1 g2 hs', H4.out, F4.out, by rw [HOL.out]; exact OW4.out, KD4.out⟩
                have := HNX.out
                rw [if_neg HY11.out] at this
                exact this
              case measure => (simp [intOf]; try omega)
        · have hkn : k = n := by omega
          have hfin : R = own.foldl (fun s n => forget n s) s' := by
            rw [HR'.out, List.drop_of_length_le (by rw [HK.out]; omega), blockLoop]
          have HFin := Lib.hid hfin
          have HOL := Lib.hid hol2
          have HLKx := Lib.hid hlk
          have HFR := Lib.hid hfr
          have HOWN := Lib.hid hown
          clear hfin hol2 hlk hfr hown hkid
          have hlt2 : ¬ ((k : Int) < n) := by omega
          go_wp2_with fail
          go_loopw [8, 68] (fun _ iv wq => ∃ (k2 : Nat) (s2 : LSt), k2 ≤ ol ∧ iv = .int .i64 k2 ∧ Hid (R = (own.drop k2).foldl (fun s n => forget n s) s2) ∧
              LK wq B kb (.slice (some ⟨tb, toff, none⟩) ts.length cap) s2 ∧ Frm B [132, 40] w wq ∧ wq.ownsRow w3.heap.size 3 1 (.slice A2 ol c2) ol (own.map (Value.int .i64)))
            (fun _ iv _ => ol - (intOf iv).toNat)
          case atStart => exact ⟨0, s', by omega, rfl, HFin, HLKx.out, HFR.out, HOWN.out⟩
          case round =>
            obtain ⟨k2, s2, hk2, rfl, HR2, hlk2, hfr2, hown2⟩ := hrel
            by_cases hlt3 : k2 < ol
            · obtain ⟨z, hz⟩ : ∃ z, own[k2]? = some z := ⟨_, List.getElem?_eq_getElem (by rw [HOL.out]; exact hlt3)⟩
              have hdrop : own.drop k2 = z :: own.drop (k2 + 1) := by
                obtain ⟨h2, h3⟩ := List.getElem?_eq_some_iff.1 hz
                rw [List.drop_eq_getElem_cons h2, h3]
              obtain ⟨gk, hgk, hcA⟩ : ∃ gk, A2 = some ⟨gk, 0, none⟩ ∧ wr.cell? ⟨gk, k2, none⟩ = some (.int .i64 z) := by
                obtain ⟨A', c', e1, h0⟩ := kids_form hown2
                injection e1 with e1 e2 e3
                subst e1
                obtain ⟨gk, h3, _, h4⟩ := h0 (by omega)
                refine ⟨gk, h3, ?_⟩
                rw [h4.cellAt k2 (by omega)]
                simp [hz]
              subst hgk
              obtain ⟨sv, mb, hmb, _, kq2, hm, _, _⟩ := hlk2.parts
              have HM := Lib.hid hm
              have hR3 := HR2.out
              rw [hdrop, List.foldl_cons] at hR3
              have HR3 := Lib.hid hR3
              have HL2 := Lib.hid hlk2
              have HF2 := Lib.hid hfr2
              have HO2 := Lib.hid hown2
              clear hdrop hR3 hm hlk2 hfr2 hown2 hz
              obtain ⟨w6, hrun, hm6, hg6⟩ := HM.out.delete keyI Try.underlying130 z 0
              have hrun2 : (Builtin.delete_ #[130, 3] 0 #[.map (some mb), .int .i64 z]).run Try.prog wr = .ok (.tuple #[]) w6 := hrun
              obtain ⟨hl6, f6⟩ := HL2.out.forgot HM.out hmb kq2 hm6 hg6 [132, 40]
              have HM6 := Lib.hid hm6
              have HL6 := Lib.hid hl6
              have F6 := Lib.hid f6
              have HG6 := Lib.hid hg6
              clear hrun hm6 hl6 f6 hg6
              go_wp2_with fail
              go_roundw
              case rel => exact ⟨k2 + 1, forget z s2, by omega, by go_num, HR3, HL6.out, HF2.out.trans F6.out, HO2.out.kept HG6.out (.inr (MK.own_ne HM.out HO2.out))⟩
              case measure => (simp [intOf]; try omega)
            · have hke : k2 = ol := by omega
              have hfin2 : R = s2 := by rw [HR2.out, List.drop_of_length_le (by rw [HOL.out]; omega)]; rfl
              have HFin2 := Lib.hid hfin2
              clear hfin2
              go_wp2_with fail
              go_end0
              exact ⟨rfl, by rw [HFin2.out]; exact hlk2, hfr2⟩
  · have q1 := beq_false_of hop
    have hR : blockF ts recS i ⟨slots, seen, false⟩ = ⟨slots, seen, true⟩ := by
      unfold blockF
      simp only [HGX.out]
      rw [if_neg (fun h => hop h.1)]
      rfl
    rw [hR]
    clear hop hR
    go_enter Try.func79, Try.ntmps79
    go_wp2_with fail
    refine (must_no B kb _ slots seen _ false HH.out).mono ?_
    rintro e w1 ⟨rfl, h1, f1⟩
    go_wp2_with fail
    refine bodyPost_ret (results_none rfl _ _ _) rfl ?_
    exact ⟨rfl, h1, f1.more (by simp)⟩
end
end Go.Proofs.Ytggibiodeecljaa
