/- looker.block. looker.stmt: the closure 'many'; what begins every way. -/
import Derived.Test.YtggibiodeecljaaMStmt0
namespace Go.Proofs.Ytggibiodeecljaa
open Go.RowKit

/-- A slot is forgotten. -/
theorem LK.forgot {w w' : World} {B kb mb : Nat} {tv : Value} {s : LSt} (h : LK w B kb tv s) {n : Int} (hm : MK keyI w mb s.seen) (hmb : B ≤ mb) (hc : w.cell? ⟨kb, 2, none⟩ = some (.map (some mb))) (hm' : MK keyI w' mb (upd keyI s.seen n none)) (hg : w.grownBy w' (some mb)) (T : List TypeId) :
    LK w' B kb tv (forget n s) ∧ Frm B T w w' := by
  have hs := h.size
  obtain ⟨sv, mb2, h1, h2, h3, h4, h5⟩ := h
  have e : mb2 = mb := by
    have := (h3.cell 2).symm.trans hc
    injection this with this
    injection this with this
    injection this
  subst e
  exact ⟨⟨sv, mb2, h1, h2, h3.grown hg (by intro e; injection e with e; exact MK.blk_ne h4 h3 e.symm), hm', h5.kept hg (.inr (MK.own_ne h4 h5))⟩,
    (Frm.refl B T w).map hm hmb hg (by omega)⟩

section
variable (B kb tb toff cap : Nat) (ts : List Node) (recS : Nat → LSt → LSt)

set_option maxRecDepth 100000 in
set_option maxHeartbeats 3200000 in
theorem block_any (htb : tb < B) (hl : ts.length ≤ 100000) (hGS : ∀ i s, Good s → Good (recS i s)) (hLS : Lens ts recS) (i : Nat) (hi : i < ts.length) (hbe : 0 ≤ behind ts i)
    (he : ∀ j ∈ kidsOf ts i, j < ts.length ∧ SAt 115 B kb tb toff cap ts recS j) :
    SAt 79 B kb tb toff cap ts (blockF ts recS) i := by
  intro s w hb hg hs h hn
  obtain ⟨x, hx⟩ : ∃ x, ts[i]? = some x := ⟨_, List.getElem?_eq_getElem hi⟩
  have hgx : ts.getD i node0 = x := by rw [List.getD_eq_getElem?_getD, hx]; rfl
  obtain ⟨slots, seen, bad⟩ := s
  simp only at hb
  subst hb
  have c0 := hn.op hx
  obtain ⟨k0, k3⟩ := h.cells
  simp only at k3
  obtain ⟨hBk, hks⟩ := h.size
  have HH := Lib.hid h
  have HN := Lib.hid hn
  have HX := Lib.hid hx
  have HGX := Lib.hid hgx
  have HE := Lib.hid he
  have HG := Lib.hid hg
  have HGS := Lib.hid hGS
  have HLS := Lib.hid hLS
  have HS := Lib.hid hs
  have HBE := Lib.hid hbe
  clear h hn hx hgx he hg hGS hLS hs hbe
  by_cases hop : x.op = 10
  · have q1 := beq_true_of hop
    cases hlk : likeB x 0 0 0 with
    | false =>
      have hR : blockF ts recS i ⟨slots, seen, false⟩ = ⟨slots, seen, true⟩ := by
        unfold blockF
        simp only [HGX.out, hlk]
        rw [if_neg (by simp)]
        rfl
      rw [hR]
      have HLB := Lib.hid hlk
      clear hop hlk hR
      go_enter Try.func79, Try.ntmps79
      go_wp2_with fail
      refine (must_yes B kb _ slots seen _ HH.out).mono ?_
      rintro e w1 ⟨rfl, h1, f1⟩
      have n1 := f1.nodes HN.out htb
      have H1 := Lib.hid h1
      have F1 := Lib.hid f1
      have N1 := Lib.hid n1
      clear h1 f1 n1
      go_wp2_with fail
      refine (like_no B kb tb toff cap ts slots seen i x 0 0 0 _ false HLB.out H1.out HX.out N1.out hl).mono ?_
      rintro e w2 ⟨rfl, h2, f2⟩
      go_wp2_with fail
      refine bodyPost_ret (results_none rfl _ _ _) rfl ?_
      exact ⟨rfl, h2, (F1.out.trans f2).more (by simp)⟩
    | true =>
      obtain ⟨R, hR⟩ : ∃ R, R = blockF ts recS i ⟨slots, seen, false⟩ := ⟨_, rfl⟩
      rw [← hR]
      have hR2 : R = blockLoop ts recS (kidsOf ts i) [] ⟨slots, seen, false⟩ := by
        rw [hR]
        unfold blockF
        simp only [HGX.out, hlk]
        rw [if_pos ⟨hop, trivial⟩]
      obtain ⟨n, hnk⟩ : ∃ n, (kidsOf ts i).length = n := ⟨_, rfl⟩
      have hnl : n ≤ 100000 := by
        have h1 := kidsOf_chain HBE.out
        have h2 : ∀ (l : List Nat) (p q : Nat), Chain ts p q l → p + l.length ≤ q := fun l => by
          induction l with
          | nil => intro p q h; simp only [Chain] at h; simp; omega
          | cons k r ih =>
            intro p q h
            have := ih _ _ h.2.2.2
            have := h.2.2.1
            simp only [List.length_cons]; omega
        have h3 := h2 _ _ _ h1
        have h4 : (behind ts i).toNat ≤ ts.length := by
          have := HBE.out
          rw [behind_eq] at this ⊢
          rcases hz : (sizes ts.length ts)[i]? with _ | _ | z <;> rw [hz] at this <;> simp only at this ⊢
          · omega
          · omega
          · have := size_pos hz; omega
        omega
      have HLB := Lib.hid hlk
      have HR := Lib.hid hR2
      have HK := Lib.hid hnk
      clear hop hlk hR hR2 hnk
      go_enter Try.func79, Try.ntmps79
      go_wp2_with fail
      refine (must_yes B kb _ slots seen _ HH.out).mono ?_
      rintro e w1 ⟨rfl, h1, f1⟩
      have n1 := f1.nodes HN.out htb
      have H1 := Lib.hid h1
      have F1 := Lib.hid f1
      have N1 := Lib.hid n1
      clear h1 f1 n1
      go_wp2_with fail
      refine (like_yes B kb tb toff cap ts slots seen i x 0 0 0 _ HLB.out H1.out HX.out N1.out hl).mono ?_
      rintro e w2 ⟨rfl, h2, f2⟩
      obtain ⟨k0, k3⟩ := h2.cells
      have n2 := f2.nodes N1.out htb
      have hz2 := h2.size
      have H2 := Lib.hid h2
      have F2 := Lib.hid (F1.out.trans f2)
      have N2 := Lib.hid n2
      clear h2 f2 n2
      go_wp2_with fail
      refine (kids_any tb toff cap ts i _ hl N2.out (by omega) hi).mono ?_
      rintro e w3 ⟨kv, rfl, hown, hbel⟩
      rw [HK.out] at hown
      obtain ⟨A, c, rfl⟩ := own_form hown
      have h3 := H2.out.below hbel (Nat.le_refl _)
      have f3 : Frm B [132, 40] w w3 := (F2.out.more (by simp)).trans (Frm.of_below hbel (by omega))
      have hsz3 := hbel.size
      have HOW := Lib.hid hown
      have HZ3 := Lib.hid hsz3
      have H3 := Lib.hid h3
      have F3 := Lib.hid f3
      clear hown h3 f3 hbel
      go_wp2_with fail
      go_loopw [4, 6, 34] (fun ov _ iv wr => ∃ (k p' : Nat) (own : List Int) (s' : LSt), w3.heap.size ≤ wr.heap.size ∧ k ≤ n ∧ own.length ≤ k ∧ iv = .int .i64 k ∧ Hid (R = blockLoop ts recS ((kidsOf ts i).drop k) own s') ∧ Hid (Good s') ∧ Hid (Chain ts p' (behind ts i).toNat ((kidsOf ts i).drop k)) ∧ s'.slots.length ≤ 2 + 3 * p' ∧
          LK wr B kb (.slice (some ⟨tb, toff, none⟩) ts.length cap) s' ∧ Frm B [132, 40] w wr ∧ wr.ownsRow w3.heap.size 3 1 ov own.length (own.map (Value.int .i64)) ∧ wr.ownsRow w2.heap.size 3 1 (.slice A n c) n ((kidsOf ts i).map fun j : Nat => Value.int .i64 j))
        (fun _ _ iv _ => n - (intOf iv).toNat)
      case atStart => exact ⟨0, i + 1, [], ⟨slots, seen, false⟩, by omega, by omega, by simp, rfl, HR, HG, kidsOf_chain HBE.out, by have := HS.out; simp only at this ⊢; omega, H3.out, F3.out, World.ownsRow_nil _ _ _ _, HOW.out⟩
      case round =>
        obtain ⟨k, p', own, s', hw3, hk, hol, rfl, HR', HG', HC', hs', hlk, hfr, hown, hkid⟩ := hrel
        obtain ⟨ol, hol2⟩ : ∃ ol, own.length = ol := ⟨_, rfl⟩
        rw [hol2] at hown hol
        obtain ⟨A2, c2, rfl⟩ := own_form hown
        obtain ⟨kc0, kc3⟩ := hlk.cells
        by_cases hlt : k < n
        · obtain ⟨j, hj⟩ : ∃ j, (kidsOf ts i)[k]? = some j := ⟨_, List.getElem?_eq_getElem (by rw [HK.out]; exact hlt)⟩
          obtain ⟨hjl, heS⟩ := HE.out j (List.mem_of_getElem? hj)
          obtain ⟨y, hy⟩ : ∃ y, ts[j]? = some y := ⟨_, List.getElem?_eq_getElem hjl⟩
          have hgj : ts.getD j node0 = y := by rw [List.getD_eq_getElem?_getD, hy]; rfl
          have hdrop : (kidsOf ts i).drop k = j :: (kidsOf ts i).drop (k + 1) := by
            obtain ⟨h2, h3⟩ := List.getElem?_eq_some_iff.1 hj
            rw [List.drop_eq_getElem_cons h2, h3]
          obtain ⟨gk, hgk, hcA⟩ : ∃ gk, A = some ⟨gk, 0, none⟩ ∧ wr.cell? ⟨gk, k, none⟩ = some (.int .i64 j) := by
            obtain ⟨A', c', e1, h0⟩ := kids_form hkid
            injection e1 with e1 e2 e3
            subst e1
            obtain ⟨gk, h3, _, h4⟩ := h0 (by omega)
            refine ⟨gk, h3, ?_⟩
            rw [h4.cellAt k (by omega)]
            simp [hj]
          subst hgk
          have HKW : Hid (w3.ownsRow w2.heap.size 3 1 (.slice (some ⟨gk, 0, none⟩) n c) n ((kidsOf ts i).map fun j : Nat => Value.int .i64 j)) := HOW.out
          have hR1 := HR'.out
          rw [hdrop, blockLoop, hgj] at hR1
          have hC1 := HC'.out
          rw [hdrop] at hC1
          obtain ⟨rfl, g1, g2, g3⟩ := hC1
          have hnr := hfr.nodes HN.out htb
          have HR1 := Lib.hid hR1
          have HC1 := Lib.hid g3
          have HLKx := Lib.hid hlk
          have HFR := Lib.hid hfr
          have HNR := Lib.hid hnr
          have HES := Lib.hid heS
          have HOL := Lib.hid hol2
          have HOWN := Lib.hid hown
          have HKID := Lib.hid hkid
          have HY := Lib.hid hy
          have HGJ := Lib.hid hgj
          clear hR1 g3 hlk hfr hnr heS hdrop hj hgj hy hol2 hown hkid
          cases hbb : s'.bad with
          | true =>
            rw [hbb] at kc3
            go_wp2_with fail
            refine bodyPost_ret (results_none rfl _ _ _) rfl ?_
            have hfin := HR1.out
            rw [if_pos hbb] at hfin
            exact ⟨rfl, by rw [hfin]; exact HLKx.out, HFR.out⟩
          | false =>
            rw [hbb] at kc3
            go_wp2_with fail
            refine (HES.out s' wr hbb HG'.out hs' HLKx.out HNR.out).mono ?_
            rintro e w4 ⟨rfl, h4, f4⟩
            obtain ⟨kd0, kd3⟩ := h4.cells
            have n4 := f4.nodes HNR.out htb
            have d0 := n4.op HY.out
            have d2 := n4.n HY.out
            have hown4 := f4.own HOWN.out (by decide)
            have hkid4 := f4.own HKID.out (by decide)
            have hsz4 := f4.size
            have H4 := Lib.hid h4
            have F4 := Lib.hid (HFR.out.trans f4)
            have N4 := Lib.hid n4
            have OW4 := Lib.hid hown4
            have KD4 := Lib.hid hkid4
            have hnext : R = blockLoop ts recS ((kidsOf ts i).drop (k + 1)) (if y.op = 11 then own ++ [y.n] else own) (recS j s') := by
              have := HR1.out
              rw [if_neg (by rw [hbb]; decide)] at this
              exact this
            have HNX := Lib.hid hnext
            clear h4 f4 n4 hown4 hkid4 hnext
            cases hlet : (y.op == 11) with
            | true =>
              have hy11 : y.op = 11 := by simpa using hlet
              have HY11 := Lib.hid hy11
              clear hy11
              go_wp2_with (at_builtin; go_loud (refine wpList_append1 Try.elInts rfl _ _ rfl w3.heap.size w4 [.int .i64 y.n] rfl _ _ _ rfl OW4.out rfl rfl (by simp [Value.oneCell']) (by unfold maxLen; omega) (by omega) (by omega) ?_; intro v5 w5 hown5 hg5))
              go_roundw
              case rel =>
                refine ⟨k + 1, _, own ++ [y.n], recS j s', Nat.le_trans (by omega) hg5.size, by omega, by rw [List.length_append, HOL.out]; simp; omega, by go_num, ?_, HGS.out _ _ HG'.out, HC1, HLS.out _ _ g1 g2 hs', H4.out.grownInts OW4.out hg5, F4.out.grownNew OW4.out hg5 (Nat.le_trans F2.out.size HZ3.out) (by omega), ?_, KD4.out.kept hg5 ?_⟩
                · have := HNX.out
                  rw [if_pos HY11.out] at this
                  exact this
                · rw [List.length_append, HOL.out, List.map_append]
                  exact hown5
                · right
                  intro e5
                  have l1 := OW4.out.lt gk e5.symm
                  have l2 := KD4.out.lt gk rfl
                  have l3 := HKW.out.lt gk rfl
                  omega
              case measure => (simp [intOf]; try omega)
            | false =>
              have hy11 : ¬ y.op = 11 := by simpa using hlet
              have HY11 := Lib.hid hy11
              clear hy11
              go_wp2_with fail
              go_roundw
              case rel =>
                refine ⟨k + 1, _, own, recS j s', by omega, by omega, by rw [HOL.out]; omega, by go_num, ?_, HGS.out _ _ HG'.out, HC1, HLS.out _ _ g1 g2 hs', H4.out, F4.out, by rw [HOL.out]; exact OW4.out, KD4.out⟩
                have := HNX.out
                rw [if_neg HY11.out] at this
                exact this
              case measure => (simp [intOf]; try omega)
        · have hkn : k = n := by omega
          have hfin : R = own.foldl (fun s n => forget n s) s' := by
            rw [HR'.out, List.drop_of_length_le (by rw [HK.out]; omega), blockLoop]
          have HFin := Lib.hid hfin
          have HOL := Lib.hid hol2
          have HLKx := Lib.hid hlk
          have HFR := Lib.hid hfr
          have HOWN := Lib.hid hown
          clear hfin hol2 hlk hfr hown hkid
          have hlt2 : ¬ ((k : Int) < n) := by omega
          go_wp2_with fail
          go_loopw [8, 68] (fun _ iv wq => ∃ (k2 : Nat) (s2 : LSt), k2 ≤ ol ∧ iv = .int .i64 k2 ∧ Hid (R = (own.drop k2).foldl (fun s n => forget n s) s2) ∧
              LK wq B kb (.slice (some ⟨tb, toff, none⟩) ts.length cap) s2 ∧ Frm B [132, 40] w wq ∧ wq.ownsRow w3.heap.size 3 1 (.slice A2 ol c2) ol (own.map (Value.int .i64)))
            (fun _ iv _ => ol - (intOf iv).toNat)
          case atStart => exact ⟨0, s', by omega, rfl, HFin, HLKx.out, HFR.out, HOWN.out⟩
          case round =>
            obtain ⟨k2, s2, hk2, rfl, HR2, hlk2, hfr2, hown2⟩ := hrel
            by_cases hlt3 : k2 < ol
            · obtain ⟨z, hz⟩ : ∃ z, own[k2]? = some z := ⟨_, List.getElem?_eq_getElem (by rw [HOL.out]; exact hlt3)⟩
              have hdrop : own.drop k2 = z :: own.drop (k2 + 1) := by
                obtain ⟨h2, h3⟩ := List.getElem?_eq_some_iff.1 hz
                rw [List.drop_eq_getElem_cons h2, h3]
              obtain ⟨gk, hgk, hcA⟩ : ∃ gk, A2 = some ⟨gk, 0, none⟩ ∧ wr.cell? ⟨gk, k2, none⟩ = some (.int .i64 z) := by
                obtain ⟨A', c', e1, h0⟩ := kids_form hown2
                injection e1 with e1 e2 e3
                subst e1
                obtain ⟨gk, h3, _, h4⟩ := h0 (by omega)
                refine ⟨gk, h3, ?_⟩
                rw [h4.cellAt k2 (by omega)]
                simp [hz]
              subst hgk
              obtain ⟨sv, mb, hmb, _, kq2, hm, _, _⟩ := hlk2.parts
              have HM := Lib.hid hm
              have hR3 := HR2.out
              rw [hdrop, List.foldl_cons] at hR3
              have HR3 := Lib.hid hR3
              have HL2 := Lib.hid hlk2
              have HF2 := Lib.hid hfr2
              have HO2 := Lib.hid hown2
              clear hdrop hR3 hm hlk2 hfr2 hown2 hz
              obtain ⟨w6, hrun, hm6, hg6⟩ := HM.out.delete keyI Try.underlying130 z 0
              have hrun2 : (Builtin.delete_ #[130, 3] 0 #[.map (some mb), .int .i64 z]).run Try.prog wr = .ok (.tuple #[]) w6 := hrun
              obtain ⟨hl6, f6⟩ := HL2.out.forgot HM.out hmb kq2 hm6 hg6 [132, 40]
              have HM6 := Lib.hid hm6
              have HL6 := Lib.hid hl6
              have F6 := Lib.hid f6
              have HG6 := Lib.hid hg6
              clear hrun hm6 hl6 f6 hg6
              go_wp2_with fail
              go_roundw
              case rel => exact ⟨k2 + 1, forget z s2, by omega, by go_num, HR3, HL6.out, HF2.out.trans F6.out, HO2.out.kept HG6.out (.inr (MK.own_ne HM.out HO2.out))⟩
              case measure => (simp [intOf]; try omega)
            · have hke : k2 = ol := by omega
              have hfin2 : R = s2 := by rw [HR2.out, List.drop_of_length_le (by rw [HOL.out]; omega)]; rfl
              have HFin2 := Lib.hid hfin2
              clear hfin2
              go_wp2_with fail
              go_end0
              exact ⟨rfl, by rw [HFin2.out]; exact hlk2, hfr2⟩
  · have q1 := beq_false_of hop
    have hR : blockF ts recS i ⟨slots, seen, false⟩ = ⟨slots, seen, true⟩ := by
      unfold blockF
      simp only [HGX.out]
      rw [if_neg (fun h => hop h.1)]
      rfl
    rw [hR]
    clear hop hR
    go_enter Try.func79, Try.ntmps79
    go_wp2_with fail
    refine (must_no B kb _ slots seen _ false HH.out).mono ?_
    rintro e w1 ⟨rfl, h1, f1⟩
    go_wp2_with fail
    refine bodyPost_ret (results_none rfl _ _ _) rfl ?_
    exact ⟨rfl, h1, f1.more (by simp)⟩
end
end Go.Proofs.Ytggibiodeecljaa
namespace Go.Proofs.Ytggibiodeecljaa
open Go.RowKit

theorem cellsAt_blk {w : World} {b : Nat} {t : TypeId} {xs : List Value} (h : Blk w b t xs.toArray) : CellsAt w b 0 xs := by
  intro k v hk
  rw [Nat.zero_add, h.cell k, ← hk]
  simp
section
variable {B kb tb toff cap : Nat} {ts : List Node} {i : Nat} {x : Node} {bk bn bq base n c : Nat} {A : Option Addr} {w0 w : World} {s : LSt}
set_option maxRecDepth 100000 in
set_option maxHeartbeats 800000 in
theorem many_any (h : StC B kb tb toff cap ts i x bk bn bq base n c A w0 s w) (l : List Int) (lb cl ln : Nat) (hll : l.length = ln) (hl3 : ln ≤ 3) (hlb : Blk w lb 3 (l.map (Value.int .i64)).toArray) (b : Bool) (hb : containsM l n = b) :
    Calls Try.prog 159 #[.slice (some ⟨lb, 0, none⟩) ln cl, .pointer (some ⟨bk, 0, none⟩), .pointer (some ⟨bq, 0, none⟩)] w fun e w' => e = .returned (.bool (!(s.must b).bad)) ∧
      LK w' B kb (.slice (some ⟨tb, toff, none⟩) ts.length cap) (s.must b) ∧ Frm B [132] w w' := by
  subst hll
  have e1 := h.b1.cell 0
  have e3 := h.b3.cell 0
  have hcn := contains_any lb 0 cl l n w.drew (by omega) (cellsAt_blk hlb.drew)
  rw [hb] at hcn
  have H := Lib.hid h.lk
  have HB1 := Lib.hid h.b1
  have HB3 := Lib.hid h.b3
  have HCN := Lib.hid hcn
  clear hcn h hlb hb
  go_enter Try.func159, Try.ntmps159
  go_wp2_with fail
  go_region_held3 (fun w' => w'.cell? ⟨bk, 0, none⟩ = some (.pointer (some ⟨kb, 0, none⟩)) ∧ w'.cell? ⟨bq, 0, none⟩ = some (.slice A n c)) (first | exact ⟨e1, e3⟩ | exact ⟨e12, e32⟩) ((first | (go_at_call 160; refine HCN.out.mono ?_; rintro e w1 ⟨rfl, rfl⟩) | (go_at_call 111; refine (must_any B kb _ s b _ H.out.drew).mono ?_; rintro e w2 ⟨rfl, h2, f2⟩; have e12 := (f2.blk HB1.out.drew (by decide)).cell 0; have e32 := (f2.blk HB3.out.drew (by decide)).cell 0)))
  all_goals go_wp2_with fail
  all_goals go_ret
  all_goals exact ⟨rfl, h2, (Frm.refl _ _ _).drew.trans f2⟩
theorem StC.cells (h : StC B kb tb toff cap ts i x bk bn bq base n c A w0 s w) : w.cell? ⟨bk, 0, none⟩ = some (.pointer (some ⟨kb, 0, none⟩)) ∧ w.cell? ⟨bn, 0, none⟩ = some (.int .i8 x.op) ∧ w.cell? ⟨bn, 2, none⟩ = some (.int .i64 x.n) ∧
    w.cell? ⟨bn, 3, none⟩ = some (.int .i64 x.m) ∧ w.cell? ⟨bq, 0, none⟩ = some (.slice A n c) :=
  ⟨h.b1.cell 0, h.b2.cell 0, h.b2.cell 2, h.b2.cell 3, h.b3.cell 0⟩
theorem StC.size (h : StC B kb tb toff cap ts i x bk bn bq base n c A w0 s w) : B ≤ w.heap.size := by have := h.lk.size; omega
theorem chain_le {ts : List Node} : ∀ (l : List Nat) (p q : Nat), Chain ts p q l → p + l.length ≤ q
  | [], p, q, h => by simp only [Chain] at h; simp; omega
  | k :: r, p, q, h => by
    have := chain_le r _ _ h.2.2.2
    have := h.2.2.1
    simp only [List.length_cons]; omega
theorem behind_le {ts : List Node} {i : Nat} (h : 0 ≤ behind ts i) : (behind ts i).toNat ≤ ts.length := by
  rw [behind_eq] at h ⊢
  rcases hz : (sizes ts.length ts)[i]? with _ | _ | z <;> rw [hz] at h <;> simp only at h ⊢
  · omega
  · omega
  · have := size_pos hz; omega
theorem kidsOf_le {ts : List Node} {i : Nat} (h : 0 ≤ behind ts i) (hl : ts.length ≤ 100000) : (kidsOf ts i).length ≤ 100000 := by
  have h1 := chain_le _ _ _ (kidsOf_chain h)
  have h2 := behind_le h
  omega
/-- The kids' call, the looker's box and the node's copy laid ahead of it; the kids' box behind it. -/
theorem stmt_kids (B kb tb toff cap : Nat) (ts : List Node) (s : LSt) (i n : Nat) (x : Node) (w : World) (hl : ts.length ≤ 100000) (h : LK w B kb (.slice (some ⟨tb, toff, none⟩) ts.length cap) s)
    (hn : NodesAt w tb toff ts) (htb : tb < B) (hi : i < ts.length) (hnk : (kidsOf ts i).length = n) :
    Calls Try.prog 114 #[.slice (some ⟨tb, toff, none⟩) ts.length cap, .int .i64 i] ((w.alloc (.cells #[.pointer (some ⟨kb, 0, none⟩)] 129)).alloc (.cells x.cells.toArray 42)) fun e w1 => ∃ A c, e = .returned (.slice A n c) ∧
      StC B kb tb toff cap ts i x w.heap.size (w.heap.size + 1) w1.heap.size (w.heap.size + 2) n c A w s (w1.alloc (.cells #[.slice A n c] 153)) := by
  obtain ⟨hB, hks⟩ := h.size
  have hn0 : NodesAt (w.alloc (.cells #[.pointer (some ⟨kb, 0, none⟩)] 129)) tb toff ts := hn.below ((Below.refl B _).alloc (by omega) _) htb
  have b1 := Blk.new w 129 #[.pointer (some ⟨kb, 0, none⟩)]
  refine (kids_pre B kb tb toff cap ts s i x.cells.toArray _ hl (h.alloc _) hn0 htb hi [132, 40]).mono ?_
  rintro e w1 ⟨kv, rfl, ho, hlk, hf, hn1, b2⟩
  simp only [World.size_alloc] at ho b2
  rw [hnk] at ho
  obtain ⟨A, c, rfl⟩ := own_form ho
  have b1' := hf.blk b1 (by decide)
  have hsz := hf.size
  simp only [World.size_alloc] at hsz
  have hf0 : Frm B [132, 40] w w1 := ((Frm.refl B _ w).alloc (by omega) _).trans hf
  refine ⟨A, c, rfl, hlk.alloc _, hf0.alloc (by omega) _, htb, hn1.below ((Below.refl B _).alloc (by omega) _) htb, b1'.alloc _, b2.alloc _, Blk.new w1 _ _, ho.alloc _⟩
end
section
variable {B kb tb toff cap : Nat} {ts : List Node} {i : Nat} {x : Node} {bk bn bq base n c : Nat} {A : Option Addr} {w0 w : World} {slots : List Int} {seen : Int → Option Value}
theorem many_yes (h : StC B kb tb toff cap ts i x bk bn bq base n c A w0 ⟨slots, seen, false⟩ w) (l : List Int) (lb cl ln : Nat) (hll : l.length = ln) (hl3 : ln ≤ 3) (hlb : Blk w lb 3 (l.map (Value.int .i64)).toArray) (hb : containsM l n = true) :
    Calls Try.prog 159 #[.slice (some ⟨lb, 0, none⟩) ln cl, .pointer (some ⟨bk, 0, none⟩), .pointer (some ⟨bq, 0, none⟩)] w fun e w' => e = .returned (.bool true) ∧
      LK w' B kb (.slice (some ⟨tb, toff, none⟩) ts.length cap) ⟨slots, seen, false⟩ ∧ Frm B [132] w w' := many_any h l lb cl ln hll hl3 hlb true hb
theorem many_no (h : StC B kb tb toff cap ts i x bk bn bq base n c A w0 ⟨slots, seen, false⟩ w) (l : List Int) (lb cl ln : Nat) (hll : l.length = ln) (hl3 : ln ≤ 3) (hlb : Blk w lb 3 (l.map (Value.int .i64)).toArray) (hb : containsM l n = false) :
    Calls Try.prog 159 #[.slice (some ⟨lb, 0, none⟩) ln cl, .pointer (some ⟨bk, 0, none⟩), .pointer (some ⟨bq, 0, none⟩)] w fun e w' => e = .returned (.bool false) ∧
      LK w' B kb (.slice (some ⟨tb, toff, none⟩) ts.length cap) ⟨slots, seen, true⟩ ∧ Frm B [132] w w' := many_any h l lb cl ln hll hl3 hlb false hb
theorem blk_new1 (w : World) (o : Obj) (t : TypeId) (cs : Array Value) : Blk ((w.alloc o).alloc (.cells cs t)) (w.heap.size + 1) t cs := by
  have := Blk.new (w.alloc o) t cs
  simpa using this
theorem contains1 (a n : Nat) : containsM [(a : Int)] n = decide (n = a) := by
  by_cases h : (a : Int) = n
  · have : n = a := by omega
    subst this
    simp [containsM, indexM]
  · have h2 : ¬ n = a := by omega
    simp [containsM, indexM, h, h2]
theorem contains2 (a b n : Nat) : containsM [(a : Int), (b : Int)] n = decide (n = a ∨ n = b) := by
  by_cases h : (a : Int) = n
  · have : n = a := by omega
    subst this
    simp [containsM, indexM]
  · by_cases h3 : (b : Int) = n
    · have : n = b := by omega
      subst this
      simp [containsM, indexM, h]
    · have h2 : ¬ n = a := by omega
      have h4 : ¬ n = b := by omega
      simp [containsM, indexM, h, h2, h3, h4]
/-- A kid's place in the kids' row. -/
theorem StC.kid0 {x : Node} (h : StC B kb tb toff cap ts i x bk bn bq base n c A w0 ⟨slots, seen, false⟩ w) (h0 : 0 < n) : ∃ gk, A = some ⟨gk, 0, none⟩ := by
  obtain ⟨A', c', e1, h1⟩ := kids_form h.own
  injection e1 with e1 e2 e3
  subst e1
  obtain ⟨gk, h3, _⟩ := h1 h0
  exact ⟨gk, h3⟩
theorem StC.kidCell {s : LSt} {gk : Nat} (h : StC B kb tb toff cap ts i x bk bn bq base n c (some ⟨gk, 0, none⟩) w0 s w) (hnk : (kidsOf ts i).length = n) (p j : Nat) (hp : (kidsOf ts i)[p]? = some j) : w.cell? ⟨gk, p, none⟩ = some (.int .i64 j) := by
  have hlt := (List.getElem?_eq_some_iff.1 hp).1
  rw [h.own.cellAt p (by omega)]
  simp [hp]
theorem StC.kidCap {s : LSt} (h : StC B kb tb toff cap ts i x bk bn bq base n c A w0 s w) : n ≤ c := by
  rcases h.own.2 with ⟨h1, h2⟩ | ⟨g', cp, cu, h1, h2, h3, h4, h5, h6⟩
  · injection h1 with h1 h3 h4; omega
  · injection h1 with h1 h3 h4; omega
theorem StC.kidLt {s : LSt} {gk : Nat} (h : StC B kb tb toff cap ts i x bk bn bq base n c (some ⟨gk, 0, none⟩) w0 s w) : gk < w.heap.size := (h.own.lt gk rfl).2

/-- What the looker does at kids, as contracts. -/
structure Recs (B kb tb toff cap : Nat) (ts : List Node) (recS recB : Nat → LSt → LSt) (i : Nat) : Prop where
  gS : ∀ i s, Good s → Good (recS i s)
  gB : ∀ i s, Good s → Good (recB i s)
  lS : Lens ts recS
  lB : Lens ts recB
  at_ : ∀ j ∈ kidsOf ts i, j < ts.length ∧ SAt 115 B kb tb toff cap ts recS j ∧ SAt 79 B kb tb toff cap ts recB j
theorem Chain.cut {ts : List Node} : ∀ (l : List Nat) (p q off ln : Nat), Chain ts p q l → ∃ p' q', Chain ts p' q' ((l.drop off).take ln) ∧ (off ≤ l.length → p + off ≤ p')
  | [], p, q, off, ln, h => ⟨p, p, by simp [Chain], fun h => by simp at h; omega⟩
  | k :: r, p, q, 0, 0, h => ⟨p, p, by simp [Chain], by simp⟩
  | k :: r, p, q, 0, ln + 1, h => by
    obtain ⟨h1, h2, h3, h4⟩ := h
    cases ln with
    | zero => exact ⟨p, _, ⟨h1, h2, h3, rfl⟩, by simp⟩
    | succ ln =>
      cases r with
      | nil => exact ⟨p, _, ⟨h1, h2, h3, rfl⟩, by simp⟩
      | cons a r =>
        obtain ⟨p', q', h5, h6⟩ := Chain.cut (a :: r) _ _ 0 (ln + 1) h4
        refine ⟨p, q', ⟨h1, h2, h3, ?_⟩, by simp⟩
        rw [List.drop_zero] at h5
        have : p' = (behind ts p).toNat := by
          rw [List.take_succ_cons] at h5
          have h7 := h5.1
          have h8 := h4.1
          omega
        rw [← this]
        exact h5
  | k :: r, p, q, off + 1, ln, h => by
    obtain ⟨h1, h2, h3, h4⟩ := h
    obtain ⟨p', q', h5, h6⟩ := Chain.cut r _ _ off ln h4
    exact ⟨p', q', by simpa using h5, fun h => by have := h6 (by simpa using h); omega⟩
/-- looker.blocks on some of the kids. -/
theorem blocks_st {recS recB : Nat → LSt → LSt} {s : LSt} {gk : Nat} (h : StC B kb tb toff cap ts i x bk bn bq base n c (some ⟨gk, 0, none⟩) w0 s w) (R : Recs B kb tb toff cap ts recS recB i) (hbe : 0 ≤ behind ts i) (hnk : (kidsOf ts i).length = n) (hnl : n ≤ 100000) (off ln c2 : Nat) (l : List Nat)
    (hl : ((kidsOf ts i).drop off).take ln = l) (hln : l.length = ln) (hoff : off ≤ n) (hg : Good s) (hs : s.slots.length ≤ 2 + 3 * (i + 1 + off)) :
    Calls Try.prog 162 #[.pointer (some ⟨kb, 0, none⟩), .slice (some ⟨gk, off, none⟩) ln c2] w fun e w' => e = .returned (.tuple #[]) ∧
      LK w' B kb (.slice (some ⟨tb, toff, none⟩) ts.length cap) (blocksF ts recS recB 0 l s) ∧ Frm B [132, 40] w w' := by
  obtain ⟨p', q', hc, hp⟩ := Chain.cut _ _ _ off ln (kidsOf_chain hbe)
  rw [hl] at hc
  have := hp (by omega)
  subst hln
  have hown := h.own
  rw [← hnk] at hown
  refine blocks_any B kb tb toff cap ts recS recB h.tbB R.gS R.gB R.lS R.lB (kidsOf ts i) l gk c base off c2 p' q' s w ?_ ?_ hown ?_ hg hc (by omega) h.lk h.nodes
  · intro k hk
    have h1 : l[k]? = (((kidsOf ts i).drop off).take l.length)[k]? := by rw [hl]
    rw [h1, List.getElem?_take, if_pos hk, List.getElem?_drop]
  · have h2 : l.length ≤ ((kidsOf ts i).drop off).length := by
      have h3 := congrArg List.length hl
      rw [List.length_take] at h3
      omega
    rw [List.length_drop] at h2
    omega
  · intro j hj
    rw [← hl] at hj
    exact R.at_ j (List.mem_of_mem_drop (List.mem_of_mem_take hj))
theorem take_one {l : List Nat} {b : Nat} (h : l[1]? = some b) : (l.drop 1).take 1 = [b] := by
  match l, h with
  | [], h => simp at h
  | [_], h => simp at h
  | a :: c :: r, h => simp at h; simp [h]
/-- looker.expr at one kid, its answer by name. -/
theorem expr_st (htb : tb < B) (hl : ts.length ≤ 100000) (htxt : ∀ y ∈ ts, y.text.size ≤ 1099511627776) (hg : Good ⟨slots, seen, false⟩) (j : Nat) (hj : j < ts.length) (kd hgt : Int) (bd : Bool) (he : exprS ts ⟨slots, seen, false⟩ j false = (kd, hgt, bd))
    (h : LK w B kb (.slice (some ⟨tb, toff, none⟩) ts.length cap) ⟨slots, seen, false⟩) (hn : NodesAt w tb toff ts) :
    Calls Try.prog 157 #[.pointer (some ⟨kb, 0, none⟩), .int .i64 j] w fun e w' => e = .returned (.tuple #[.int .i8 kd, .int .i64 hgt]) ∧ LK w' B kb (.slice (some ⟨tb, toff, none⟩) ts.length cap) ⟨slots, seen, bd⟩ ∧ Frm B [132] w w' := by
  have he' : exprM ts slots seen ts.length j false = (kd, hgt, bd) := he
  have := expr_any B kb tb toff cap ts slots seen hl htb htxt (fun n h1 h2 _ => hg.key n h1 h2) ts.length j (by omega) hj (by omega) false w h hn
  rw [he'] at this
  exact this
end
end Go.Proofs.Ytggibiodeecljaa
