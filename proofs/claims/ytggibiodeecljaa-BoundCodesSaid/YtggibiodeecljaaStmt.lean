/- looker.value, declare: what the looker holds behind them. -/
import Derived.Test.YtggibiodeecljaaStmtM
import Derived.Test.YtggibiodeecljaaExprAll
import Derived.Maps.AppendAt
namespace Go.Proofs.Ytggibiodeecljaa
open Go.RowKit

theorem info_i8 : (Try.prog.info? 40).map (fun i => (i.zero, i.size, i.bytes)) = some (some (.int .i8 0), 1, 1) := by kernel_rfl
theorem slot_el : ElT Try.prog 22 40 1 1 := ⟨Try.underlying22, by decide, by
  obtain ⟨i0, hi, hz0, hz1, hz2⟩ := info_parts info_i8
  exact ⟨i0, _, hi, hz0, hz1, hz2, rfl⟩⟩

theorem own_form {w : World} {base n size : Nat} {e : TypeId} {v : Value} {xs : List Value} (h : w.ownsRow base e size v n xs) : ∃ A c, v = .slice A n c := by
  rcases h.2 with ⟨h1, h2⟩ | ⟨g', cp, cu, h1, _⟩
  · exact ⟨none, 0, by rw [h1, h2]⟩
  · exact ⟨_, _, h1⟩
theorem news_cell {w : World} {lb : Nat} {l : List Int} {j : Nat} {u : Value} (h : Blk w lb 40 (l.map (Value.int .i8)).toArray) (hj : (l.map (Value.int .i8))[j]? = some u) : w.cell? ((⟨lb, 0, none⟩ : Addr).add j) = some u := by
  have e : (⟨lb, 0, none⟩ : Addr).add j = ⟨lb, j, none⟩ := by
    unfold Addr.add
    cases j <;> simp
  rw [e, h.cell j, ← hj]
  simp

section
variable (B kb tb toff cap : Nat) (ts : List Node) (hl : ts.length ≤ 100000) (htb : tb < B) (htxt : ∀ y ∈ ts, y.text.size ≤ 1099511627776)
include hl htb htxt

/-- looker.value. -/
theorem value_any (i : Nat) (kind : Int) (s : LSt) (w : World) (hi : i < ts.length) (hg : Good s) (h : LK w B kb (.slice (some ⟨tb, toff, none⟩) ts.length cap) s) (hn : NodesAt w tb toff ts) :
    Calls Try.prog 78 #[.pointer (some ⟨kb, 0, none⟩), .int .i64 i, .int .i8 kind] w fun e w' => e = .returned (.tuple #[]) ∧
      LK w' B kb (.slice (some ⟨tb, toff, none⟩) ts.length cap) (valueF ts i kind s) ∧ Frm B [132] w w' := by
  have he := expr_any B kb tb toff cap ts s.slots s.seen hl htb htxt (fun n h1 h2 _ => hg.key n h1 h2) ts.length i (by omega) hi (by omega)
  go_enter Try.func78, Try.ntmps78
  go_wp2_with fail
  refine (wanted_any B kb tb toff cap ts s.slots s.seen _ i kind s.bad w he h hn).mono ?_
  rintro e w1 ⟨rfl, h1, f1⟩
  go_wp2_with fail
  refine (must_any B kb _ _ _ _ h1).mono ?_
  rintro e w2 ⟨rfl, h2, f2⟩
  go_wp2_with fail
  go_end0
  exact ⟨rfl, h2, f1.trans f2⟩

set_option maxRecDepth 100000 in
set_option maxHeartbeats 800000 in
omit hl htb htxt in
/-- looker.declare. -/
theorem declare_any (slot : Int) (b : Bool) (l : List Int) (lb c : Nat) (s : LSt) (tv : Value) (w : World) (hs : s.slots.length ≤ 400000) (hll : l.length ≤ 3) (h : LK w B kb tv s) (hlb : Blk w lb 40 (l.map (Value.int .i8)).toArray) (hB : B ≤ w.heap.size) :
    Calls Try.prog 161 #[.pointer (some ⟨kb, 0, none⟩), .int .i64 slot, .bool b, .slice (some ⟨lb, 0, none⟩) l.length c] w fun e w' => e = .returned (.tuple #[]) ∧
      LK w' B kb tv (declareF slot b l s) ∧ Frm B [132, 40] w w' := by
  obtain ⟨sv, mb, hmb, k1, k2, hm, hown, hk⟩ := h.parts
  obtain ⟨n, hn⟩ : ∃ n, s.slots.length = n := ⟨_, rfl⟩
  obtain ⟨hBk, hks⟩ := h.size
  rw [hn] at hown hs
  obtain ⟨A, c', rfl⟩ : ∃ A c', sv = .slice A n c' := by
    rcases hown.2 with ⟨h1, h2⟩ | ⟨g', cp, cu, h1, _⟩
    · exact ⟨none, 0, by rw [h1, h2]⟩
    · exact ⟨_, _, h1⟩
  obtain ⟨q, hq⟩ : ∃ q : Bool, (slot == (n : Int)) = q := ⟨_, rfl⟩
  have hD : declareF slot b l s = if s.bad = true then s else if q = true then ⟨s.slots ++ l, upd keyI s.seen (n : Int) (some (.bool b)), false⟩ else badF s := by
    unfold declareF
    rw [hn]
    by_cases h : slot = n
    · have hq1 : q = true := by rw [← hq]; exact beq_true_of h
      rw [if_pos h, if_pos hq1]
    · have hq1 : ¬ q = true := by rw [← hq, beq_false_of h]; decide
      rw [if_neg h, if_neg hq1]
      rfl
  rw [hD]
  have HD := Lib.hid hD
  have HH := Lib.hid h
  have HN := Lib.hid hn
  have HO := Lib.hid hown
  have HM := Lib.hid hm
  have HK := Lib.hid hk
  have HL := Lib.hid hlb
  clear h hn hm hown hk hlb hD
  obtain ⟨slots, seen, bad⟩ := s
  go_enter Try.func161, Try.ntmps161
  cases bad with
  | true =>
    go_wp2_with fail
    refine (must_any B kb _ _ _ _ HH.out).mono ?_
    rintro e w1 ⟨rfl, h1, f1⟩
    go_wp2_with fail
    go_end0
    exact ⟨rfl, h1, f1.more (by simp)⟩
  | false =>
    cases q with
    | false =>
      go_wp2_with fail
      refine (must_any B kb _ _ false _ HH.out).mono ?_
      rintro e w1 ⟨rfl, h1, f1⟩
      go_wp2_with fail
      go_end0
      exact ⟨rfl, h1, f1.more (by simp)⟩
    | true =>
      go_wp2_with fail
      refine (must_any B kb _ _ true _ HH.out).mono ?_
      rintro e w1 ⟨rfl, h1, f1⟩
      obtain ⟨sv1, mb1, hmb1, k11, k12, hm1, hown1, hk1⟩ := h1.parts
      have HN1 : slots.length = n := HN.out
      change w1.ownsRow B _ 1 sv1 slots.length (slots.map _) at hown1
      rw [HN1] at hown1
      obtain ⟨A1, c1, rfl⟩ : ∃ A c, sv1 = .slice A n c := by
        rcases hown1.2 with ⟨h1, h2⟩ | ⟨g', cp, cu, h1, _⟩
        · exact ⟨none, 0, by rw [h1, h2]⟩
        · exact ⟨_, _, h1⟩
      have hB1 : B ≤ w1.heap.size := Nat.le_trans hB f1.size
      have hl1 := f1.blk HL.out (by decide)
      have HM1 := Lib.hid hm1
      have HO1 := Lib.hid hown1
      have HK1 := Lib.hid hk1
      have HL1 := Lib.hid hl1
      have F1 := Lib.hid f1
      clear h1 hm1 hown1 hk1 hl1 f1
      go_wp2_with fail
      refine wp_region_text (by kernel_rfl) (by kernel_rfl) ?_
      obtain ⟨w3, hrun, hm3, hg3⟩ := (HM1.out.drew keyI).update keyI Try.underlying130 (n : Int) (.bool b)
      have hrun2 : (Instr.mapUpdate 130 (.map (some mb1)) (.int .i64 (n : Int)) (.bool b)).run Try.prog w1.drew = .ok () w3 := hrun
      have hk3 := HK1.out.drew.grown hg3 (by intro e; injection e with e; exact MK.blk_ne HM1.out HK1.out e.symm)
      have hown3 := HO1.out.drew.kept hg3 (.inr (MK.own_ne HM1.out HO1.out))
      have hl3 := HL1.out.drew.grown hg3 (by intro e; injection e with e; exact MK.blk_ne HM1.out HL1.out e.symm)
      have c31 := hk3.cell 1
      have f3 := F1.out.drew.map (HM1.out.drew keyI) hmb1 hg3 hB1
      clear hrun
      go_wp2_with fail
      refine Only.normal ?_
      have HM3 := Lib.hid hm3
      have HO3 := Lib.hid hown3
      have HK3 := Lib.hid hk3
      have HL3 := Lib.hid hl3
      have F3 := Lib.hid f3
      clear hm3 hown3 hk3 hl3 f3
      obtain ⟨i0, z0, hi0, hz0, hsz0, hby0, hzc0⟩ := slot_el.info
      have hBw3 : B ≤ w3.heap.size := Nat.le_trans hB1 hg3.size
      go_wp2_with (at_builtin; go_loud (refine wpList_append_own_at _ rfl _ _ 22 rfl B 40 i0 z0 1 1 slot_el.und hi0 hz0 hsz0 hby0 hzc0 (by decide) _ n _ rfl HO3.out ⟨lb, 0, none⟩ l.length c (l.map (Value.int .i8)) rfl (by simp) (fun j u hj => news_cell HL3.out hj) (by intro u hu; obtain ⟨y, _, rfl⟩ := List.mem_map.1 hu; rfl) (by unfold maxLen; omega) (by omega) hBw3 ?_; intro v4 w4 hown4 hg4 _ _; obtain ⟨A4, c4, rfl⟩ := own_form hown4; have hk4 := HK3.out.grown hg4 (own_blk_ne HO3.out HK3.out (by decide)).symm; have hm4 := HM3.out.grown keyI hg4 (MK.own_ne HM3.out HO3.out).symm; have c41 := hk4.cell 1; have z41 := hk4.frozen 1; have f4 := (F3.out.more (T' := [132, 40]) (by simp)).grown HO3.out hg4 (Nat.le_refl _) hBw3 (by simp)))
      go_end0
      have hq0 : declareF slot b l ⟨slots, seen, false⟩ = ⟨slots ++ l, upd keyI seen (n : Int) (some (.bool b)), false⟩ := HD.out
      have own5 := own_setCell hown4 (own_blk_ne hown4 hk4 (by decide)) (p := ⟨kb, 1, none⟩) (.slice A4 (n + l.length) c4)
      refine ⟨rfl, ⟨.slice A4 (n + l.length) c4, mb1, hBk, hmb1, hk4.set_ 1 _, hm4.setCell keyI (MK.blk_ne hm4 hk4) _, ?_⟩, f4.set_ hk4 hBk (by simp) _⟩
      have hsl : (slots ++ l).length = n + l.length := by rw [List.length_append, HN1]
      show World.ownsRow _ _ _ _ _ (slots ++ l).length (List.map _ (slots ++ l))
      rw [hsl, List.map_append]
      exact own5
end
end Go.Proofs.Ytggibiodeecljaa
