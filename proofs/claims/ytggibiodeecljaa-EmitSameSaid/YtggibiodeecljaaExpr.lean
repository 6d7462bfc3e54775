/- looker.wanted, call, operator, expr: what they answer, and what the looker holds behind them. -/
import Derived.Test.YtggibiodeecljaaMModel
import Derived.Test.YtggibiodeecljaaTree
import Derived.Test.YtggibiodeecljaaMBase
import Derived.Deep.RegionWith
import Derived.Deep.RegionHeld3
import Derived.Deep.DeepCutAuto
namespace Go.Proofs.Ytggibiodeecljaa
open Go.RowKit

/-- The contract of looker.expr at one place. -/
def ExprAt (B kb tb toff cap : Nat) (ts : List Node) (slots : List Int) (seen : Int → Option Value) (r : Bool → ER) (i : Nat) : Prop :=
  ∀ (bad : Bool) (w : World), LK w B kb (.slice (some ⟨tb, toff, none⟩) ts.length cap) ⟨slots, seen, bad⟩ → NodesAt w tb toff ts →
    Calls Try.prog 157 #[.pointer (some ⟨kb, 0, none⟩), .int .i64 i] w fun e w' => e = .returned (.tuple #[.int .i8 (r bad).1, .int .i64 (r bad).2.1]) ∧
      LK w' B kb (.slice (some ⟨tb, toff, none⟩) ts.length cap) ⟨slots, seen, (r bad).2.2⟩ ∧ Frm B [132] w w'

theorem wanted_any (B kb tb toff cap : Nat) (ts : List Node) (slots : List Int) (seen : Int → Option Value) (r : Bool → ER) (i : Nat) (kind : Int) (bad : Bool) (w : World)
    (he : ExprAt B kb tb toff cap ts slots seen r i) (h : LK w B kb (.slice (some ⟨tb, toff, none⟩) ts.length cap) ⟨slots, seen, bad⟩) (hn : NodesAt w tb toff ts) :
    Calls Try.prog 112 #[.pointer (some ⟨kb, 0, none⟩), .int .i64 i, .int .i8 kind] w fun e w' => e = .returned (.int .i64 (wantedF (r bad) kind).1) ∧
      LK w' B kb (.slice (some ⟨tb, toff, none⟩) ts.length cap) ⟨slots, seen, (wantedF (r bad) kind).2⟩ ∧ Frm B [132] w w' := by
  go_enter Try.func112, Try.ntmps112
  go_wp2_with fail
  refine (he bad w h hn).mono ?_
  rintro e w1 ⟨rfl, h1, hb1⟩
  go_wp2_with fail
  refine (must_any B kb _ _ _ _ h1).mono ?_
  rintro e w2 ⟨rfl, h2, hb2⟩
  go_wp2_with fail
  go_ret
  exact ⟨rfl, h2, hb1.trans hb2⟩

theorem ite_max {a b : Int} : (if a < b then b else a) = max a b := by split <;> omega

section
variable {rec : Nat → Bool → ER} {ts : List Node} {l : List (Nat × Int)} {k j : Nat} {u high values : Int} {bad b : Bool} {y : Node} {R : Int × Bool}
theorem callLoop_word (hR : R = callLoop rec ts (l.drop k) high values bad) (hd : l.drop k = (j, u) :: l.drop (k + 1)) (hy : ts.getD j node0 = y) (hu : u = -1)
    (hq : (y.op == 51 && y.kids == 0 && decide (0 ≤ y.n) && decide (y.n ≤ 3)) = b) : R = callLoop rec ts (l.drop (k + 1)) high values ((bad || !b) || !(likeB y 0 y.n 0)) := by
  rw [hR, hd, callLoop, if_pos hu]
  simp only [hy, hq]
theorem callLoop_text (hR : R = callLoop rec ts (l.drop k) high values bad) (hd : l.drop k = (j, u) :: l.drop (k + 1)) (hy : ts.getD j node0 = y) (hu : u = -2)
    (hq : (y.op == 52 && y.kids == 0 && rightM y.text) = b) : R = callLoop rec ts (l.drop (k + 1)) high values ((bad || !b) || !(likeB y 0 0 0)) := by
  rw [hR, hd, callLoop, if_neg (by omega), if_pos hu]
  simp only [hy, hq]
theorem callLoop_value (hR : R = callLoop rec ts (l.drop k) high values bad) (hd : l.drop k = (j, u) :: l.drop (k + 1)) (h1 : u ≠ -1) (h2 : u ≠ -2) :
    R = callLoop rec ts (l.drop (k + 1)) (max high (values + (wantedF (rec j bad) u).1)) (values + 1) (wantedF (rec j bad) u).2 := by
  rw [hR, hd, callLoop, if_neg h1, if_neg h2]
end

set_option maxRecDepth 100000 in
set_option maxHeartbeats 1600000 in
theorem call_any (B kb tb toff cap : Nat) (ts : List Node) (slots : List Int) (seen : Int → Option Value) (rec : Nat → Bool → ER) (H : Int) (hH : 0 ≤ H) (hH2 : H ≤ 1000000) (hr : ∀ i b, 0 ≤ (rec i b).2.1 ∧ (rec i b).2.1 ≤ H)
    (i : Nat) (x : Node) (kids : List Nat) (s : Sign) (g : Nat) (kv : Value) (base : Nat) (w : World) (hx : ts[i]? = some x) (hl : ts.length ≤ 100000)
    (htxt : ∀ y ∈ ts, y.text.size ≤ 1099511627776)
    (he : ∀ j ∈ kids, j < ts.length ∧ ExprAt B kb tb toff cap ts slots seen (rec j) j) (hs : s.args.length ≤ 2) (hga : Blk w g 40 (s.args.map (Value.int .i8)).toArray)
    (hkv : w.ownsRow base 3 1 kv kids.length (kids.map fun j : Nat => Value.int .i64 j))
    (h : LK w B kb (.slice (some ⟨tb, toff, none⟩) ts.length cap) ⟨slots, seen, false⟩) (hn : NodesAt w tb toff ts) (htb : tb < B) :
    Calls Try.prog 164 #[.pointer (some ⟨kb, 0, none⟩), .int .i64 i, kv, .agg (s.cells g).toArray] w fun e w' => e = .returned (.int .i64 (callF rec ts i kids s).1) ∧
      LK w' B kb (.slice (some ⟨tb, toff, none⟩) ts.length cap) ⟨slots, seen, (callF rec ts i kids s).2⟩ ∧ Frm B [132] w w' := by
  obtain ⟨F, hF⟩ : ∃ F, s.fn = .func (Fn.func F) #[] #[] := ⟨_, rfl⟩
  have hcs : (s.cells g).toArray = #[.string s.name, .slice (some ⟨g, 0, none⟩) s.args.length s.args.length, .int .i8 s.tell, .func (Fn.func F) #[] #[]] := by simp [Sign.cells, hF]
  rw [hcs]
  have hi : i < ts.length := (List.getElem?_eq_some_iff.1 hx).1
  obtain ⟨hBk, hks⟩ := h.size
  have hbox := Blk.new w 162 #[.string s.name, .slice (some ⟨g, 0, none⟩) s.args.length s.args.length, .int .i8 s.tell, .func (Fn.func F) #[] #[]]
  have hgd : (ts.getD i node0) = x := by rw [List.getD_eq_getElem?_getD, hx]; rfl
  have hfb : Frm B [132] w (w.alloc (.cells #[.string s.name, .slice (some ⟨g, 0, none⟩) s.args.length s.args.length, .int .i8 s.tell, .func (Fn.func F) #[] #[]] 162)) := (Frm.refl _ _ _).alloc (by omega) _
  obtain ⟨nk, hnk⟩ : ∃ nk, kids.length = nk := ⟨_, rfl⟩
  have hkv2 : ∃ A c, kv = .slice A nk c ∧ (0 < nk → ∃ gk, A = some ⟨gk, 0, none⟩ ∧ w.ownsRow base 3 1 (.slice (some ⟨gk, 0, none⟩) nk c) nk (kids.map fun j : Nat => Value.int .i64 j)) := by
    rw [hnk] at hkv
    rcases hkv.2 with ⟨h1, h2⟩ | ⟨g', cp, cu, h1, _⟩
    · exact ⟨none, 0, by rw [h1, h2], fun h => absurd h (by omega)⟩
    · exact ⟨_, _, h1, fun _ => ⟨g', rfl, by rw [← h1]; exact hkv⟩⟩
  obtain ⟨A, c, rfl, hown⟩ := hkv2
  clear hkv
  have HH := Lib.hid h
  have HB := Lib.hid hbox
  have HF := Lib.hid hfb
  have HO := Lib.hid hown
  have HE := Lib.hid he
  have HR := Lib.hid hr
  have HX := Lib.hid hx
  have HG := Lib.hid hga
  have HT := Lib.hid htxt
  obtain ⟨la, hla⟩ : ∃ la, s.args.length = la := ⟨_, rfl⟩
  by_cases hlen : nk = la
  · subst hlen
    by_cases hlike : likeB x s.tell x.n 0 = true
    · obtain ⟨R, hR⟩ : ∃ R, R = callF rec ts i kids s := ⟨_, rfl⟩
      rw [← hR]
      have hR2 : R = callLoop rec ts (kids.zip s.args) 0 0 false := by rw [hR]; unfold callF; simp only [hgd]; rw [if_pos ⟨by rw [hnk, hla], hlike⟩]
      have HR2 := Lib.hid hR2
      have HL := Lib.hid hlike
      have HK := Lib.hid hnk
      have HA := Lib.hid hla
      rw [hla] at hs ⊢
      simp only [hla] at HB HF
      have hd2 : (nk : Int) == (nk : Int) := by simp
      clear h hbox hfb hown he hr hx hga htxt hR hR2 hlike hnk hla hgd hcs hF
      go_enter Try.func164, Try.ntmps164
      go_wp2_with fail
      refine wp_region_text (by kernel_rfl) (by kernel_rfl) ?_
      go_wp2_with (first | (go_at_call 111; refine (must_yes B kb _ _ _ _ (HH.out.alloc _).drew).mono ?_; rintro e w1 ⟨rfl, h1, f1⟩; have hbx := f1.blk HB.out.drew (by simp); have hc1 := hbx.cell 1; have hc2 := hbx.cell 2; have hk0 := h1.cells.1; have hn1 := f1.nodes (HF.out.nodes hn htb) htb; have hcn := hn1.n HX.out; have H1 := Lib.hid h1; have F1 := Lib.hid f1; have N1 := Lib.hid hn1; clear h1 f1 hn1) | (go_at_call 113; refine (like_yes B kb tb toff cap ts _ _ i x _ _ _ _ HL.out H1.out HX.out N1.out hl).mono ?_; rintro e w2 ⟨rfl, h2, f2⟩))
      refine Only.normal ?_
      have fw2 : Frm B [132] w w2 := (HF.out.drew.trans F1.out).trans f2
      have hbx2 := f2.blk hbx (by simp)
      have H2 := Lib.hid h2
      have FW := Lib.hid fw2
      have HB2 := Lib.hid hbx2
      clear hbx hbx2 hc1 hc2 hk0 hcn h2 f2 fw2 H1 F1 N1 HB HF
      have hbk : w.heap.size < w2.heap.size := HB2.out.lt
      go_wp2_with fail
      go_loopw [9, 10, 11, 12, 13, 41] (fun hv vv _ _ _ iv wr => ∃ (k : Nat) (high values : Int) (bad : Bool), k ≤ nk ∧ iv = .int .i64 k ∧ hv = .int .i64 high ∧ vv = .int .i64 values ∧ Hid (R = callLoop rec ts ((kids.zip s.args).drop k) high values bad) ∧
          0 ≤ high ∧ high ≤ H + values ∧ 0 ≤ values ∧ values ≤ k ∧ LK wr B kb (.slice (some ⟨tb, toff, none⟩) ts.length cap) ⟨slots, seen, bad⟩ ∧ Frm B [132] w wr ∧ Blk wr w.heap.size 162 #[.string s.name, .slice (some ⟨g, 0, none⟩) nk nk, .int .i8 s.tell, .func (Fn.func F) #[] #[]])
        (fun _ _ _ _ _ iv _ => nk - (intOf iv).toNat)
      case atStart => exact ⟨0, 0, 0, false, by omega, rfl, rfl, rfl, HR2.out, by omega, by omega, by omega, by omega, H2.out, FW.out, HB2.out⟩
      case round =>
        obtain ⟨k, high, values, bad, hk, rfl, rfl, rfl, HC, hh0, hh1, hv0, hv1, hlk, hfr, hbx⟩ := hrel
        by_cases hlt : k < nk
        · obtain ⟨gk, rfl, hown⟩ := HO.out (by omega)
          obtain ⟨j, hj⟩ : ∃ j, kids[k]? = some j := ⟨_, List.getElem?_eq_getElem (by rw [HK.out]; exact hlt)⟩
          obtain ⟨u, hu⟩ : ∃ u, s.args[k]? = some u := ⟨_, List.getElem?_eq_getElem (by rw [HA.out]; exact hlt)⟩
          have hjm : j ∈ kids := List.mem_of_getElem? hj
          obtain ⟨hjl, hej⟩ := HE.out j hjm
          obtain ⟨y, hy⟩ : ∃ y, ts[j]? = some y := ⟨_, List.getElem?_eq_getElem hjl⟩
          have hown2 := hfr.own hown (by simp)
          have hnr := hfr.nodes hn htb
          have hga2 := hfr.blk HG.out (by simp)
          have hck : wr.cell? ⟨gk, k, none⟩ = some (.int .i64 j) := by
            rw [hown2.cellAt k (by omega)]
            simp [hj]
          have hcu : wr.cell? ⟨g, k, none⟩ = some (.int .i8 u) := by
            rw [hga2.cell k]
            simp [hu]
          obtain ⟨d0, d1, d2, d3, d4, d5, d6⟩ := hnr.all hy
          have hb1 := hbx.cell 1
          have hk0 := hlk.cells.1
          obtain ⟨hBk2, hks2⟩ := hlk.size
          have hz1 : w.heap.size < wr.heap.size := hbx.lt
          have hz2 : g < wr.heap.size := hga2.lt
          have hz3 : gk < wr.heap.size := World.block_lt_of_cell? wr _ hck
          have hz4 : tb < wr.heap.size := World.block_lt_of_cell? wr _ d0
          have hdrop : (kids.zip s.args).drop k = (j, u) :: (kids.zip s.args).drop (k + 1) := by
            have h1 : (kids.zip s.args)[k]? = some (j, u) := by rw [List.getElem?_zip_eq_some]; exact ⟨hj, hu⟩
            obtain ⟨h2, h3⟩ := List.getElem?_eq_some_iff.1 h1
            rw [List.drop_eq_getElem_cons h2, h3]
          have hgj : ts.getD j node0 = y := by rw [List.getD_eq_getElem?_getD, hy]; rfl
          have hlk2 : ∀ o, LK (wr.alloc o) B kb (.slice (some ⟨tb, toff, none⟩) ts.length cap) ⟨slots, seen, bad⟩ := fun o => hlk.alloc o
          have hnr2 : ∀ o, NodesAt (wr.alloc o) tb toff ts := fun o => hnr.below ((Below.refl _ _).alloc (by omega) _) htb
          have hby : ∀ o, Blk (wr.alloc o) w.heap.size 162 #[.string s.name, .slice (some ⟨g, 0, none⟩) nk nk, .int .i8 s.tell, .func (Fn.func F) #[] #[]] := fun o => hbx.alloc o
          have hfr2 : ∀ o, Frm B [132] w (wr.alloc o) := fun o => hfr.alloc (by omega) _
          have HD := Lib.hid hdrop
          have HGJ := Lib.hid hgj
          have HY := Lib.hid hy
          have HJ := Lib.hid hej
          have HLK := Lib.hid hlk2
          have HNR := Lib.hid hnr2
          have HBY := Lib.hid hby
          have HFR := Lib.hid hfr2
          have HGA := Lib.hid hga2
          have hyt := HT.out y (List.mem_of_getElem? hy)
          clear hdrop hgj hy hej hlk2 hnr2 hby hfr2 hj hu hlk hfr hbx hnr hga2 hown2 hown hjm
          by_cases hu1 : u = -1
          · have hub : (u == -1) = true := by simp [hu1]
            have HU := Lib.hid hu1
            clear hu1
            go_wp2_with (first | (go_at_call 111; refine (must_any B kb _ ⟨slots, seen, bad⟩ _ _ (HLK.out _)).mono ?_; rintro e w3 ⟨rfl, h3, f3⟩; have cn := (f3.blk (Blk.new wr _ _) (by decide)).cell 2; have H3 := Lib.hid h3; have F3 := Lib.hid f3; clear h3 f3) | (go_at_call 113; refine (like_any B kb tb toff cap ts _ j y _ _ _ _ H3.out HY.out (F3.out.nodes (HNR.out _) htb) hl).mono ?_; rintro e w4 ⟨rfl, h4, f4⟩))
            all_goals
              go_roundw
              case rel =>
                refine ⟨k + 1, high, values, _, by omega, by go_num, rfl, rfl, callLoop_word (b := _) HC.out HD.out HGJ.out HU.out ?_, hh0, hh1, hv0, by omega, h4, ((HFR.out _).trans F3.out).trans f4, f4.blk (F3.out.blk (HBY.out _) (by decide)) (by decide)⟩
                rcases Int.lt_or_le y.n 0 with hp | hp
                · first | (exfalso; omega) | simp [*, Int.not_le.2 hp]
                · first | (exfalso; omega) | simp [*]
              case measure => (simp [intOf]; try omega)
          · have hub : (u == -1) = false := by simp [hu1]
            by_cases hu2 : u = -2
            · have hub2 : (u == -2) = true := by simp [hu2]
              have HU := Lib.hid hu2
              clear hu1 hu2
              go_wp2_with (first | (go_at_call 185; refine (right_any y.text _ hyt).mono ?_; rintro e w5 ⟨rfl, rfl⟩) | (go_at_call 111; refine (must_any B kb _ ⟨slots, seen, bad⟩ _ _ (HLK.out _)).mono ?_; rintro e w3 ⟨rfl, h3, f3⟩; have H3 := Lib.hid h3; have F3 := Lib.hid f3; clear h3 f3) | (go_at_call 113; refine (like_any B kb tb toff cap ts _ j y _ _ _ _ H3.out HY.out (F3.out.nodes (HNR.out _) htb) hl).mono ?_; rintro e w4 ⟨rfl, h4, f4⟩))
              all_goals
                go_roundw
                case rel =>
                  refine ⟨k + 1, high, values, _, by omega, by go_num, rfl, rfl, callLoop_text (b := _) HC.out HD.out HGJ.out HU.out ?_, hh0, hh1, hv0, by omega, h4, ((HFR.out _).trans F3.out).trans f4, f4.blk (F3.out.blk (HBY.out _) (by decide)) (by decide)⟩
                  simp [*]
                case measure => (simp [intOf]; try omega)
            · have hub2 : (u == -2) = false := by simp [hu2]
              have HU1 := Lib.hid hu1
              have HU2 := Lib.hid hu2
              have hw := HR.out j bad
              have hw1 : (wantedF (rec j bad) u).1 = (rec j bad).2.1 := rfl
              rw [← hw1] at hw
              obtain ⟨hw2, hw3⟩ := hw
              clear hu1 hu2 hw1
              go_wp2_with (first | (go_at_call 112; refine (wanted_any B kb tb toff cap ts slots seen (rec j) j u bad _ HJ.out (HLK.out _) (HNR.out _)).mono ?_; rintro e w3 ⟨rfl, h3, f3⟩))
              go_roundw
              case rel =>
                refine ⟨k + 1, max high (values + (wantedF (rec j bad) u).1), values + 1, _, by omega, by go_num, by rw [ite_max], rfl, callLoop_value HC.out HD.out HU1.out HU2.out, by omega, by omega, by omega, by omega, h3, (HFR.out _).trans f3, f3.blk (HBY.out _) (by decide)⟩
              case measure => (simp [intOf]; try omega)
        · have hkn : k = nk := by omega
          have hfin : R = (high, bad) := by
            rw [HC.out, List.drop_of_length_le (by rw [List.length_zip, HK.out, HA.out]; omega), callLoop]
          have HFin := Lib.hid hfin
          clear hfin
          go_wp2_with fail
          go_ret
          exact ⟨ret_i64 (by rw [HFin.out]), by rw [HFin.out]; exact hlk, hfr⟩
    · have hcf : callF rec ts i kids s = (0, true) := by unfold callF; simp only [hgd]; rw [if_neg (fun h => hlike h.2)]
      rw [hcf]
      have hlf : likeB x s.tell x.n 0 = false := by simpa using hlike
      have HL := Lib.hid hlf
      have HK := Lib.hid hnk
      have HA := Lib.hid hla
      rw [hla] at hs ⊢
      simp only [hla] at HB HF
      have hd2 : (nk : Int) == (nk : Int) := by simp
      clear h hbox hfb hown he hr hx hga htxt hlike hnk hla hgd hcs hF hcf hlf
      go_enter Try.func164, Try.ntmps164
      go_wp2_with fail
      refine wp_region_text (by kernel_rfl) (by kernel_rfl) ?_
      go_wp2_with (first | (go_at_call 111; refine (must_yes B kb _ _ _ _ (HH.out.alloc _).drew).mono ?_; rintro e w1 ⟨rfl, h1, f1⟩; have hbx := f1.blk HB.out.drew (by simp); have hc1 := hbx.cell 1; have hc2 := hbx.cell 2; have hk0 := h1.cells.1; have hn1 := f1.nodes (HF.out.nodes hn htb) htb; have hcn := hn1.n HX.out; have H1 := Lib.hid h1; have F1 := Lib.hid f1; have N1 := Lib.hid hn1; clear h1 f1 hn1) | (go_at_call 113; refine (like_no B kb tb toff cap ts _ _ i x _ _ _ _ _ HL.out H1.out HX.out N1.out hl).mono ?_; rintro e w2 ⟨rfl, h2, f2⟩))
      refine Only.normal ?_
      go_wp2
      go_ret
      exact ⟨rfl, h2, (HF.out.drew.trans F1.out).trans f2⟩
  · have hcf : callF rec ts i kids s = (0, true) := by unfold callF; simp [hnk, hla, hlen]
    rw [hcf, hla]
    simp only [hla] at HB HF
    have hlb : ((nk : Int) == (la : Int)) = false := by simp; omega
    clear hcf hgd hcs hF h hbox hfb hown he hr hx hga htxt hnk hla
    have HL := Lib.hid hlen
    clear hlen
    go_enter Try.func164, Try.ntmps164
    go_wp2_with fail
    refine wp_region_text (by kernel_rfl) (by kernel_rfl) ?_
    go_wp2_with (first | (go_at_call 111; refine (must_no B kb _ _ _ _ _ (HH.out.alloc _).drew).mono ?_; rintro e w1 ⟨rfl, h1, f1⟩))
    refine Only.normal ?_
    go_wp2
    go_ret
    exact ⟨rfl, h1, HF.out.drew.trans f1⟩
end Go.Proofs.Ytggibiodeecljaa
