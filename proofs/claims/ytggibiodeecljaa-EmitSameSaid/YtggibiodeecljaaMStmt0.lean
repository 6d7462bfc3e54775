/- looker.expr at every place. looker.value, declare: what the looker holds behind them. looker.blocks. looker.stmt: what lies in memory behind its first lines; the closure 'many'. -/
import Derived.Test.YtggibiodeecljaaMExpr5
import Derived.Test.YtggibiodeecljaaExpr7
import Derived.Test.YtggibiodeecljaaMModel
import Derived.Maps.AppendAt
import Derived.Deep.RegionHeld3
namespace Go.Proofs.Ytggibiodeecljaa
open Go.RowKit

theorem beq_true_of {a b : Int} (h : a = b) : (a == b) = true := by simp [h]
theorem beq_false_of {a b : Int} (h : ¬ a = b) : (a == b) = false := by simp [h]

theorem expr_any (B kb tb toff cap : Nat) (ts : List Node) (slots : List Int) (seen : Int → Option Value) (hl : ts.length ≤ 100000) (htb : tb < B) (htxt : ∀ y ∈ ts, y.text.size ≤ 1099511627776)
    (hseen : ∀ n, (seen n).isSome = true → 0 ≤ n → n < 1048576 → n < slots.length) : ∀ (f i : Nat), ts.length ≤ i + f → i < ts.length → f ≤ 100001 → ExprAt B kb tb toff cap ts slots seen (exprM ts slots seen f i) i
  | 0, i, h1, h2, _ => absurd h2 (by omega)
  | f + 1, i, h1, h2, h3 => by
    have ih := expr_any B kb tb toff cap ts slots seen hl htb htxt hseen f
    intro bad w h hn
    have hE : exprM ts slots seen (f + 1) i bad = exprF (exprM ts slots seen f) ts slots seen i bad := rfl
    rw [hE]
    have hx : ts[i]? = some (ts.getD i node0) := by rw [List.getD_eq_getElem?_getD, List.getElem?_eq_getElem h2]; rfl
    generalize hg : ts.getD i node0 = x at hx
    have hk : ∀ j ∈ kidsOf ts i, j < ts.length ∧ ExprAt B kb tb toff cap ts slots seen (exprM ts slots seen f j) j := fun j hj => by
      have := kidsOf_ok hj
      exact ⟨this.2.1, ih j (by omega) this.2.1 (by omega)⟩
    have hr : ∀ i b, 0 ≤ (exprM ts slots seen f i b).2.1 ∧ (exprM ts slots seen f i b).2.1 ≤ 2 * f := exprM_high ts slots seen f
    generalize hrec : exprM ts slots seen f = rec at hk hr
    unfold exprF
    simp only [hg]
    cases bad with
    | true => simp only [if_pos]; exact expr_bad B kb tb toff cap ts slots seen i w h
    | false =>
      rw [if_neg (by decide : ¬ (false = true))]
      by_cases q1 : x.op = 30
      · rw [if_pos q1]; exact expr_num B kb tb toff cap ts slots seen i x w hl hx h hn htb (beq_true_of q1)
      rw [if_neg q1]
      by_cases q2 : x.op = 31 ∨ x.op = 32
      · rw [if_pos q2]
        refine expr_truth B kb tb toff cap ts slots seen i x w hl hx h hn htb (beq_false_of q1) ?_
        by_cases q : x.op = 31
        · exact .inl (beq_true_of q)
        · exact .inr ⟨beq_false_of q, beq_true_of (by omega)⟩
      rw [if_neg q2]
      have e1 := beq_false_of q1
      have e2 : (x.op == 31) = false := beq_false_of fun h => q2 (.inl h)
      have e3 : (x.op == 32) = false := beq_false_of fun h => q2 (.inr h)
      by_cases q4 : x.op = 33
      · rw [if_pos q4]
        by_cases hs : (seen x.n).isSome = true ∧ 0 ≤ x.n ∧ x.n < 1048576 ∧ (kidsOf ts i).length = 0
        · rw [if_pos hs]
          obtain ⟨s1, s2, s3, s4⟩ := hs
          exact expr_name B kb tb toff cap ts slots seen i x w hl hx h hn htb q4 s1 s2 s3 s4 (hseen _ s1 s2 s3)
        · rw [if_neg hs]
          exact expr_noname B kb tb toff cap ts slots seen i x w hl hx h hn htb q4 hs
      rw [if_neg q4]
      have e4 := beq_false_of q4
      by_cases q5 : x.op = 49
      · rw [if_pos q5]
        cases hs : signOf fieldsM x.n with
        | none => exact expr_nofield B kb tb toff cap ts slots seen i x w hl hx h hn htb e1 e2 e3 e4 (beq_true_of q5) hs
        | some s => exact expr_field B kb tb toff cap ts slots seen rec i x s w hl hx h hn htb hk e1 e2 e3 e4 (beq_true_of q5) hs
      rw [if_neg q5]
      have e5 := beq_false_of q5
      by_cases q6 : x.op = 50
      · rw [if_pos q6]
        cases hs : signOf funcsM x.n with
        | none => exact expr_nocall B kb tb toff cap ts slots seen i x w hl hx h hn htb e1 e2 e3 e4 e5 (beq_true_of q6) hs
        | some s => exact expr_call B kb tb toff cap ts slots seen rec (2 * f) (by omega) (by omega) hr htxt i x s w hl hx h hn htb hk e1 e2 e3 e4 e5 (beq_true_of q6) hs
      rw [if_neg q6]
      exact expr_oper B kb tb toff cap ts slots seen rec (2 * f) (by omega) hr i x w hl hx h hn htb hk e1 e2 e3 e4 e5 (beq_false_of q6)
end Go.Proofs.Ytggibiodeecljaa
namespace Go.Proofs.Ytggibiodeecljaa
open Go.RowKit

theorem info_i8 : (Try.prog.info? 40).map (fun i => (i.zero, i.size, i.bytes)) = some (some (.int .i8 0), 1, 1) := by kernel_rfl
theorem slot_el : ElT Try.prog 22 40 1 1 := ⟨Try.underlying22, by decide, by
  obtain ⟨i0, hi, hz0, hz1, hz2⟩ := info_parts info_i8
  exact ⟨i0, _, hi, hz0, hz1, hz2, rfl⟩⟩

theorem own_form {w : World} {base n size : Nat} {e : TypeId} {v : Value} {xs : List Value} (h : w.ownsRow base e size v n xs) : ∃ A c, v = .slice A n c := by
  rcases h.2 with ⟨h1, h2⟩ | ⟨g', cp, cu, h1, _⟩
  · exact ⟨none, 0, by rw [h1, h2]⟩
  · exact ⟨_, _, h1⟩
theorem news_cell {w : World} {lb : Nat} {l : List Int} {j : Nat} {u : Value} (h : Blk w lb 40 (l.map (Value.int .i8)).toArray) (hj : (l.map (Value.int .i8))[j]? = some u) : w.cell? ((⟨lb, 0, none⟩ : Addr).add j) = some u := by
  have e : (⟨lb, 0, none⟩ : Addr).add j = ⟨lb, j, none⟩ := by
    unfold Addr.add
    cases j <;> simp
  rw [e, h.cell j, ← hj]
  simp

section
variable (B kb tb toff cap : Nat) (ts : List Node) (hl : ts.length ≤ 100000) (htb : tb < B) (htxt : ∀ y ∈ ts, y.text.size ≤ 1099511627776)
include hl htb htxt

/-- looker.value. -/
theorem value_any (i : Nat) (kind : Int) (s : LSt) (w : World) (hi : i < ts.length) (hg : Good s) (h : LK w B kb (.slice (some ⟨tb, toff, none⟩) ts.length cap) s) (hn : NodesAt w tb toff ts) :
    Calls Try.prog 78 #[.pointer (some ⟨kb, 0, none⟩), .int .i64 i, .int .i8 kind] w fun e w' => e = .returned (.tuple #[]) ∧
      LK w' B kb (.slice (some ⟨tb, toff, none⟩) ts.length cap) (valueF ts i kind s) ∧ Frm B [132] w w' := by
  have he := expr_any B kb tb toff cap ts s.slots s.seen hl htb htxt (fun n h1 h2 _ => hg.key n h1 h2) ts.length i (by omega) hi (by omega)
  go_enter Try.func78, Try.ntmps78
  go_wp2_with fail
  refine (wanted_any B kb tb toff cap ts s.slots s.seen _ i kind s.bad w he h hn).mono ?_
  rintro e w1 ⟨rfl, h1, f1⟩
  go_wp2_with fail
  refine (must_any B kb _ _ _ _ h1).mono ?_
  rintro e w2 ⟨rfl, h2, f2⟩
  go_wp2_with fail
  go_end0
  exact ⟨rfl, h2, f1.trans f2⟩

set_option maxRecDepth 100000 in
set_option maxHeartbeats 800000 in
omit hl htb htxt in
/-- looker.declare. -/
theorem declare_any (slot : Int) (b : Bool) (l : List Int) (lb c : Nat) (s : LSt) (tv : Value) (w : World) (hs : s.slots.length ≤ 400000) (hll : l.length ≤ 3) (h : LK w B kb tv s) (hlb : Blk w lb 40 (l.map (Value.int .i8)).toArray) (hB : B ≤ w.heap.size) :
    Calls Try.prog 161 #[.pointer (some ⟨kb, 0, none⟩), .int .i64 slot, .bool b, .slice (some ⟨lb, 0, none⟩) l.length c] w fun e w' => e = .returned (.tuple #[]) ∧
      LK w' B kb tv (declareF slot b l s) ∧ Frm B [132, 40] w w' := by
  obtain ⟨sv, mb, hmb, k1, k2, hm, hown, hk⟩ := h.parts
  obtain ⟨n, hn⟩ : ∃ n, s.slots.length = n := ⟨_, rfl⟩
  obtain ⟨hBk, hks⟩ := h.size
  rw [hn] at hown hs
  obtain ⟨A, c', rfl⟩ : ∃ A c', sv = .slice A n c' := by
    rcases hown.2 with ⟨h1, h2⟩ | ⟨g', cp, cu, h1, _⟩
    · exact ⟨none, 0, by rw [h1, h2]⟩
    · exact ⟨_, _, h1⟩
  obtain ⟨q, hq⟩ : ∃ q : Bool, (slot == (n : Int)) = q := ⟨_, rfl⟩
  have hD : declareF slot b l s = if s.bad = true then s else if q = true then ⟨s.slots ++ l, upd keyI s.seen (n : Int) (some (.bool b)), false⟩ else badF s := by
    unfold declareF
    rw [hn]
    by_cases h : slot = n
    · have hq1 : q = true := by rw [← hq]; exact beq_true_of h
      rw [if_pos h, if_pos hq1]
    · have hq1 : ¬ q = true := by rw [← hq, beq_false_of h]; decide
      rw [if_neg h, if_neg hq1]
      rfl
  rw [hD]
  have HD := Lib.hid hD
  have HH := Lib.hid h
  have HN := Lib.hid hn
  have HO := Lib.hid hown
  have HM := Lib.hid hm
  have HK := Lib.hid hk
  have HL := Lib.hid hlb
  clear h hn hm hown hk hlb hD
  obtain ⟨slots, seen, bad⟩ := s
  go_enter Try.func161, Try.ntmps161
  cases bad with
  | true =>
    go_wp2_with fail
    refine (must_any B kb _ _ _ _ HH.out).mono ?_
    rintro e w1 ⟨rfl, h1, f1⟩
    go_wp2_with fail
    go_end0
    exact ⟨rfl, h1, f1.more (by simp)⟩
  | false =>
    cases q with
    | false =>
      go_wp2_with fail
      refine (must_any B kb _ _ false _ HH.out).mono ?_
      rintro e w1 ⟨rfl, h1, f1⟩
      go_wp2_with fail
      go_end0
      exact ⟨rfl, h1, f1.more (by simp)⟩
    | true =>
      go_wp2_with fail
      refine (must_any B kb _ _ true _ HH.out).mono ?_
      rintro e w1 ⟨rfl, h1, f1⟩
      obtain ⟨sv1, mb1, hmb1, k11, k12, hm1, hown1, hk1⟩ := h1.parts
      have HN1 : slots.length = n := HN.out
      change w1.ownsRow B _ 1 sv1 slots.length (slots.map _) at hown1
      rw [HN1] at hown1
      obtain ⟨A1, c1, rfl⟩ : ∃ A c, sv1 = .slice A n c := by
        rcases hown1.2 with ⟨h1, h2⟩ | ⟨g', cp, cu, h1, _⟩
        · exact ⟨none, 0, by rw [h1, h2]⟩
        · exact ⟨_, _, h1⟩
      have hB1 : B ≤ w1.heap.size := Nat.le_trans hB f1.size
      have hl1 := f1.blk HL.out (by decide)
      have HM1 := Lib.hid hm1
      have HO1 := Lib.hid hown1
      have HK1 := Lib.hid hk1
      have HL1 := Lib.hid hl1
      have F1 := Lib.hid f1
      clear h1 hm1 hown1 hk1 hl1 f1
      go_wp2_with fail
      refine wp_region_text (by kernel_rfl) (by kernel_rfl) ?_
      obtain ⟨w3, hrun, hm3, hg3⟩ := (HM1.out.drew keyI).update keyI Try.underlying130 (n : Int) (.bool b)
      have hrun2 : (Instr.mapUpdate 130 (.map (some mb1)) (.int .i64 (n : Int)) (.bool b)).run Try.prog w1.drew = .ok () w3 := hrun
      have hk3 := HK1.out.drew.grown hg3 (by intro e; injection e with e; exact MK.blk_ne HM1.out HK1.out e.symm)
      have hown3 := HO1.out.drew.kept hg3 (.inr (MK.own_ne HM1.out HO1.out))
      have hl3 := HL1.out.drew.grown hg3 (by intro e; injection e with e; exact MK.blk_ne HM1.out HL1.out e.symm)
      have c31 := hk3.cell 1
      have f3 := F1.out.drew.map (HM1.out.drew keyI) hmb1 hg3 hB1
      clear hrun
      go_wp2_with fail
      refine Only.normal ?_
      have HM3 := Lib.hid hm3
      have HO3 := Lib.hid hown3
      have HK3 := Lib.hid hk3
      have HL3 := Lib.hid hl3
      have F3 := Lib.hid f3
      clear hm3 hown3 hk3 hl3 f3
      obtain ⟨i0, z0, hi0, hz0, hsz0, hby0, hzc0⟩ := slot_el.info
      have hBw3 : B ≤ w3.heap.size := Nat.le_trans hB1 hg3.size
      go_wp2_with (at_builtin; go_loud (refine wpList_append_own_at _ rfl _ _ 22 rfl B 40 i0 z0 1 1 slot_el.und hi0 hz0 hsz0 hby0 hzc0 (by decide) _ n _ rfl HO3.out ⟨lb, 0, none⟩ l.length c (l.map (Value.int .i8)) rfl (by simp) (fun j u hj => news_cell HL3.out hj) (by intro u hu; obtain ⟨y, _, rfl⟩ := List.mem_map.1 hu; rfl) (by unfold maxLen; omega) (by omega) hBw3 ?_; intro v4 w4 hown4 hg4 _ _; obtain ⟨A4, c4, rfl⟩ := own_form hown4; have hk4 := HK3.out.grown hg4 (own_blk_ne HO3.out HK3.out (by decide)).symm; have hm4 := HM3.out.grown keyI hg4 (MK.own_ne HM3.out HO3.out).symm; have c41 := hk4.cell 1; have z41 := hk4.frozen 1; have f4 := (F3.out.more (T' := [132, 40]) (by simp)).grown HO3.out hg4 (Nat.le_refl _) hBw3 (by simp)))
      go_end0
      have hq0 : declareF slot b l ⟨slots, seen, false⟩ = ⟨slots ++ l, upd keyI seen (n : Int) (some (.bool b)), false⟩ := HD.out
      have own5 := own_setCell hown4 (own_blk_ne hown4 hk4 (by decide)) (p := ⟨kb, 1, none⟩) (.slice A4 (n + l.length) c4)
      refine ⟨rfl, ⟨.slice A4 (n + l.length) c4, mb1, hBk, hmb1, hk4.set_ 1 _, hm4.setCell keyI (MK.blk_ne hm4 hk4) _, ?_⟩, f4.set_ hk4 hBk (by simp) _⟩
      have hsl : (slots ++ l).length = n + l.length := by rw [List.length_append, HN1]
      show World.ownsRow _ _ _ _ _ (slots ++ l).length (List.map _ (slots ++ l))
      rw [hsl, List.map_append]
      exact own5
end
end Go.Proofs.Ytggibiodeecljaa
namespace Go.Proofs.Ytggibiodeecljaa
open Go.RowKit

/-- The contract of looker.stmt (or block) at one place, nothing bad so far. -/
def SAt (F B kb tb toff cap : Nat) (ts : List Node) (r : Nat → LSt → LSt) (i : Nat) : Prop :=
  ∀ (s : LSt) (w : World), s.bad = false → Good s → s.slots.length ≤ 2 + 3 * i → LK w B kb (.slice (some ⟨tb, toff, none⟩) ts.length cap) s → NodesAt w tb toff ts →
    Calls Try.prog F #[.pointer (some ⟨kb, 0, none⟩), .int .i64 i] w fun e w' => e = .returned (.tuple #[]) ∧ LK w' B kb (.slice (some ⟨tb, toff, none⟩) ts.length cap) (r i s) ∧ Frm B [132, 40] w w'

section
variable (B kb tb toff cap : Nat) (ts : List Node) (recS recB : Nat → LSt → LSt)

set_option maxRecDepth 100000 in
set_option maxHeartbeats 1600000 in
theorem blocks_any (htb : tb < B) (hGS : ∀ i s, Good s → Good (recS i s)) (hGB : ∀ i s, Good s → Good (recB i s)) (hLS : Lens ts recS) (hLB : Lens ts recB)
    (K l : List Nat) (g cK base off c p q : Nat) (s : LSt) (w : World) (hl : ∀ k, k < l.length → K[off + k]? = l[k]?) (hlen : l.length ≤ 1000000)
    (hown : w.ownsRow base 3 1 (.slice (some ⟨g, 0, none⟩) K.length cK) K.length (K.map fun j : Nat => Value.int .i64 j))
    (he : ∀ j ∈ l, j < ts.length ∧ SAt 115 B kb tb toff cap ts recS j ∧ SAt 79 B kb tb toff cap ts recB j)
    (hg : Good s) (hc : Chain ts p q l) (hs : s.slots.length ≤ 2 + 3 * p) (h : LK w B kb (.slice (some ⟨tb, toff, none⟩) ts.length cap) s) (hn : NodesAt w tb toff ts) :
    Calls Try.prog 162 #[.pointer (some ⟨kb, 0, none⟩), .slice (some ⟨g, off, none⟩) l.length c] w fun e w' => e = .returned (.tuple #[]) ∧
      LK w' B kb (.slice (some ⟨tb, toff, none⟩) ts.length cap) (blocksF ts recS recB 0 l s) ∧ Frm B [132, 40] w w' := by
  obtain ⟨R, hR⟩ : ∃ R, R = blocksF ts recS recB 0 l s := ⟨_, rfl⟩
  rw [← hR]
  obtain ⟨n, hnl⟩ : ∃ n, l.length = n := ⟨_, rfl⟩
  have HR := Lib.hid hR
  have HC := Lib.hid hc
  have HG := Lib.hid hg
  have HH := Lib.hid h
  have HE := Lib.hid he
  have HO := Lib.hid hown
  have HL := Lib.hid hl
  have HNL := Lib.hid hnl
  have HGS := Lib.hid hGS
  have HGB := Lib.hid hGB
  have HLS := Lib.hid hLS
  have HLB := Lib.hid hLB
  rw [hnl] at hlen ⊢
  clear hR hc hg h he hown hl hnl hGS hGB hLS hLB
  go_enter Try.func162, Try.ntmps162
  go_wp2_with fail
  go_loopw [4, 5, 8, 16, 21] (fun _ _ iv _ _ wr => ∃ (k p' : Nat) (s' : LSt), k ≤ n ∧ iv = .int .i64 k ∧ Hid (R = blocksF ts recS recB k (l.drop k) s') ∧ Hid (Good s') ∧ Hid (Chain ts p' q (l.drop k)) ∧ s'.slots.length ≤ 2 + 3 * p' ∧
      LK wr B kb (.slice (some ⟨tb, toff, none⟩) ts.length cap) s' ∧ Frm B [132, 40] w wr)
    (fun _ _ iv _ _ _ => n - (intOf iv).toNat)
  case atStart => exact ⟨0, p, s, by omega, rfl, HR, HG, HC, hs, HH.out, Frm.refl _ _ _⟩
  case round =>
    obtain ⟨k, p', s', hk, rfl, HR', HG', HC', hs', hlk, hfr⟩ := hrel
    by_cases hlt : k < n
    · obtain ⟨j, hj⟩ : ∃ j, l[k]? = some j := ⟨_, List.getElem?_eq_getElem (by rw [HNL.out]; exact hlt)⟩
      obtain ⟨hjl, heS, heB⟩ := HE.out j (List.mem_of_getElem? hj)
      obtain ⟨y, hy⟩ : ∃ y, ts[j]? = some y := ⟨_, List.getElem?_eq_getElem hjl⟩
      have hgj : ts.getD j node0 = y := by rw [List.getD_eq_getElem?_getD, hy]; rfl
      have hdrop : l.drop k = j :: l.drop (k + 1) := by
        obtain ⟨h2, h3⟩ := List.getElem?_eq_some_iff.1 hj
        rw [List.drop_eq_getElem_cons h2, h3]
      have hKj : K[off + k]? = some j := by rw [HL.out k (by rw [HNL.out]; exact hlt), hj]
      have hKl : off + k < K.length := (List.getElem?_eq_some_iff.1 hKj).1
      have hnr := hfr.nodes hn htb
      have hcell : wr.cell? ⟨g, off + k, none⟩ = some (.int .i64 j) := by
        rw [(hfr.own HO.out (by decide)).cellAt (off + k) (by omega)]
        simp [hKj]
      have c0 := hnr.op hy
      obtain ⟨hk0, hk3⟩ := hlk.cells
      have hR1 := HR'.out
      rw [hdrop, blocksF, hgj] at hR1
      have hC1 := HC'.out
      rw [hdrop] at hC1
      obtain ⟨rfl, g1, g2, g3⟩ := hC1
      have HR1 := Lib.hid hR1
      have HC1 := Lib.hid g3
      have HLKx := Lib.hid hlk
      have HFR := Lib.hid hfr
      have HNR := Lib.hid hnr
      have HES := Lib.hid heS
      have HEB := Lib.hid heB
      clear hR1 g3 hlk hfr hnr heS heB hdrop hj hgj hy hKj
      cases hb : s'.bad with
      | true =>
        rw [hb] at hk3
        go_wp2_with fail
        go_roundw
        case rel =>
          refine ⟨k + 1, _, s', by omega, by go_num, ?_, HG', HC1, ?_, HLKx.out, HFR.out⟩
          · have := HR1.out
            rw [if_pos hb] at this
            exact this
          · omega
        case measure => (simp [intOf]; try omega)
      | false =>
        rw [hb] at hk3
        by_cases hq : k = 1 ∧ y.op = 13
        · obtain ⟨rfl, hq2⟩ := hq
          have q2 := beq_true_of hq2
          have HQ := Lib.hid hq2
          clear hq2
          go_wp2_with fail
          refine (HES.out s' wr hb HG'.out hs' HLKx.out HNR.out).mono ?_
          rintro e w3 ⟨rfl, h3, f3⟩
          go_wp2_with fail
          go_roundw
          case rel =>
            refine ⟨1 + 1, _, recS j s', by omega, by go_num, ?_, HGS.out _ _ HG'.out, HC1, HLS.out _ _ g1 g2 hs', h3, HFR.out.trans f3⟩
            have := HR1.out
            rw [if_neg (by rw [hb]; decide), if_pos (by first | exact ⟨rfl, HQ.out⟩ | exact ⟨trivial, HQ.out⟩ | exact HQ.out)] at this
            exact this
          case measure => (simp [intOf]; try omega)
        · have hlast : R = blocksF ts recS recB (k + 1) (l.drop (k + 1)) (recB j s') := by
            have := HR1.out
            rw [if_neg (by rw [hb]; decide), if_neg hq] at this
            exact this
          have HLast := Lib.hid hlast
          clear hlast
          by_cases hk1 : k = 1
          · subst hk1
            have q2 : (y.op == 13) = false := beq_false_of fun h => hq ⟨rfl, h⟩
            clear hq
            go_wp2_with fail
            refine (HEB.out s' wr hb HG'.out hs' HLKx.out HNR.out).mono ?_
            rintro e w3 ⟨rfl, h3, f3⟩
            go_wp2_with fail
            go_roundw
            case rel => exact ⟨1 + 1, _, recB j s', by omega, by go_num, HLast, HGB.out _ _ HG'.out, HC1, HLB.out _ _ g1 g2 hs', h3, HFR.out.trans f3⟩
            case measure => (simp [intOf]; try omega)
          · have q1 : ((k : Int) == 1) = false := beq_false_of (by omega)
            clear hq
            go_wp2_with fail
            refine (HEB.out s' wr hb HG'.out hs' HLKx.out HNR.out).mono ?_
            rintro e w3 ⟨rfl, h3, f3⟩
            go_wp2_with fail
            go_roundw
            case rel => exact ⟨k + 1, _, recB j s', by omega, by go_num, HLast, HGB.out _ _ HG'.out, HC1, HLB.out _ _ g1 g2 hs', h3, HFR.out.trans f3⟩
            case measure => (simp [intOf]; try omega)
    · have hkn : k = n := by omega
      have hfin : R = s' := by
        rw [HR'.out, List.drop_of_length_le (by rw [HNL.out]; omega), blocksF]
      have HFin := Lib.hid hfin
      clear hfin
      go_wp2_with fail
      go_end0
      exact ⟨rfl, by rw [HFin.out]; exact hlk, hfr⟩
end
end Go.Proofs.Ytggibiodeecljaa
namespace Go.Proofs.Ytggibiodeecljaa
open Go.RowKit

theorem LK.grownInts {w w' : World} {B kb : Nat} {tv : Value} {s : LSt} (h : LK w B kb tv s) {base n : Nat} {v : Value} {xs : List Value} (ho : w.ownsRow base 3 1 v n xs) (hg : w.grownBy w' v.ownBlock) : LK w' B kb tv s := by
  obtain ⟨sv, mb, h1, h2, h3, h4, h5⟩ := h
  refine ⟨sv, mb, h1, h2, h3.grown hg (own_blk_ne ho h3 (by decide)).symm, h4.grown keyI hg (MK.own_ne h4 ho).symm, h5.kept hg ?_⟩
  rcases h5.2 with ⟨rfl, _⟩ | ⟨g', cp, cu, rfl, _, hh, _⟩
  · exact .inl rfl
  · right
    intro e
    exact own_blk_ne ho (g := g') (t := 40) (cs := cu) hh (by decide) e.symm
theorem Frm.grownNew {B base : Nat} {T : List TypeId} {a w w' : World} {e : TypeId} {size n : Nat} {v : Value} {xs : List Value} (h : Frm B T a w) (ho : w.ownsRow base e size v n xs) (hg : w.grownBy w' v.ownBlock) (hb : a.heap.size ≤ base) (hB : B ≤ a.heap.size) : Frm B T a w' := by
  refine ⟨Below.of_own h.below ho hg (by omega) (Nat.le_trans hB h.size), fun g cs t fr hg' ht' => ?_⟩
  have h0 : g < a.heap.size := (Array.getElem?_eq_some_iff.1 hg').1
  have h1 := h.kept g cs t fr hg' ht'
  rw [hg.block g (by have := h.size; omega) ?_, h1]
  intro e2
  have := ho.lt g e2.symm
  omega

/-- Behind the first lines of looker.stmt: the looker, its pointer's box, the node's copy, the kids' box. -/
structure StC (B kb tb toff cap : Nat) (ts : List Node) (i : Nat) (x : Node) (bk bn bq base n c : Nat) (A : Option Addr) (w0 : World) (s : LSt) (w : World) : Prop where
  lk : LK w B kb (.slice (some ⟨tb, toff, none⟩) ts.length cap) s
  fr : Frm B [132, 40] w0 w
  tbB : tb < B
  nodes : NodesAt w tb toff ts
  b1 : Blk w bk 129 #[.pointer (some ⟨kb, 0, none⟩)]
  b2 : Blk w bn 42 x.cells.toArray
  b3 : Blk w bq 153 #[.slice A n c]
  own : w.ownsRow base 3 1 (.slice A n c) n ((kidsOf ts i).map fun j : Nat => Value.int .i64 j)

section
variable {B kb tb toff cap : Nat} {ts : List Node} {i : Nat} {x : Node} {bk bn bq base n c : Nat} {A : Option Addr} {w0 w w' : World} {s s' : LSt}
theorem StC.alloc (h : StC B kb tb toff cap ts i x bk bn bq base n c A w0 s w) (o : Obj) : StC B kb tb toff cap ts i x bk bn bq base n c A w0 s (w.alloc o) := by
  have hB : B ≤ w.heap.size := by have := h.lk.size; omega
  exact ⟨h.lk.alloc o, h.fr.alloc hB o, h.tbB, h.nodes.below ((Below.refl w.heap.size w).alloc (Nat.le_refl _) o) (by have := h.lk.size; have := h.tbB; omega), h.b1.alloc o, h.b2.alloc o, h.b3.alloc o, h.own.alloc o⟩
theorem StC.drew (h : StC B kb tb toff cap ts i x bk bn bq base n c A w0 s w) : StC B kb tb toff cap ts i x bk bn bq base n c A w0 s w.drew :=
  ⟨h.lk.drew, h.fr.drew, h.tbB, h.nodes, h.b1.drew, h.b2.drew, h.b3.drew, h.own.drew⟩
theorem StC.step (h : StC B kb tb toff cap ts i x bk bn bq base n c A w0 s w) {T : List TypeId} (hT : ∀ t ∈ T, t = 132 ∨ t = 40) (hl : LK w' B kb (.slice (some ⟨tb, toff, none⟩) ts.length cap) s') (hf : Frm B T w w') :
    StC B kb tb toff cap ts i x bk bn bq base n c A w0 s' w' := by
  have hf2 : Frm B [132, 40] w w' := hf.more (fun t ht => by simpa using hT t ht)
  exact ⟨hl, h.fr.trans hf2, h.tbB, hf2.nodes h.nodes h.tbB, hf2.blk h.b1 (by decide), hf2.blk h.b2 (by decide), hf2.blk h.b3 (by decide), hf2.own h.own (by decide)⟩
end
end Go.Proofs.Ytggibiodeecljaa
