/- emit's numbers: the first place of each thing of a pool. emit's numbers: the first place of each thing of a pool. tableauref00: CopyLongs, CopyTexts: copies that are the call's own. tableauref00: SizeTexts. -/
import Derived.Test.YtggibiodeecljaaMEmit0
import Derived.Test.YtggibiodeecljaaMAble0
import Derived.IntWalk
import Derived.Test.YtggibiodeecljaaMRows
namespace Go.Proofs.Ytggibiodeecljaa
open Go.RowKit
set_option linter.unusedVariables false

/-- The pool's map behind more things, of which the first has place k. -/
noncomputable def numG {κ : Type} (eqb : κ → κ → Bool) : Nat → (κ → Option Int) → List κ → κ → Option Int
  | _, f, [] => f
  | k, f, x :: r => numG eqb (k + 1) (if (f x).isNone = true ∧ k < 4096 then (fun y => if eqb y x = true then some (k : Int) else f y) else f) r
noncomputable def numI (l : List Int) : Int → Option Int := numG keyL.eqb 0 (fun _ => none) l
noncomputable def numS (l : List ByteArray) : ByteArray → Option Int := numG keyS.eqb 0 (fun _ => none) l

set_option maxRecDepth 100000 in
set_option maxHeartbeats 1600000 in
theorem numbersI_any (A : Option Addr) (l : List Int) (n c : Nat) (w : World) (hl : IntsAt w A l) (hn : l.length = n) (hl2 : n ≤ 100000000) :
    Calls Try.prog 39 #[.slice A n c] w fun e w' => ∃ mb, e = .returned (.map (some mb)) ∧ w.heap.size ≤ mb ∧ MK keyL w' mb (fun n => intO (numI l n)) ∧ Below w.heap.size w w' := by
  have hmm := @run_makeMap Try.prog
  obtain ⟨R, hR⟩ : ∃ R, R = numI l := ⟨_, rfl⟩
  rw [← hR]
  have HR := Lib.hid hR
  have HL := Lib.hid hl
  have HN := Lib.hid hn
  have m0 := MK.made keyL w
  have b0 : Below w.heap.size w (w.alloc (.map #[] 0)) := (Below.refl _ _).alloc (Nat.le_refl _) _
  have M0 := Lib.hid m0
  have B0 := Lib.hid b0
  clear hR hl hn m0 b0
  go_enter Try.func39, Try.ntmps39
  go_wp2_with fail
  go_loopw [4, 5, 6, 7, 11] (fun _ _ _ _ iv wr => ∃ (k : Nat) (f : Int → Option Int), k ≤ n ∧ iv = .int .i64 k ∧ Hid (R = numG keyL.eqb k f (l.drop k)) ∧ MK keyL wr w.heap.size (fun n => intO (f n)) ∧ Below w.heap.size w wr) (fun _ _ _ _ iv _ => n - (intOf iv).toNat)
  case atStart => exact ⟨0, fun _ => none, by omega, rfl, by rw [HR.out]; rfl, M0.out, B0.out⟩
  case round =>
    obtain ⟨k, f, hkn, rfl, HRk, hmk, hbel⟩ := hrel
    by_cases hlt : k < n
    · obtain ⟨x, hx⟩ : ∃ x, l[k]? = some x := ⟨_, List.getElem?_eq_getElem (by rw [HN.out]; exact hlt)⟩
      obtain ⟨b, o, rfl, hbs, hc0⟩ := HL.out k x hx
      have hcj : wr.cell? ⟨b, o + k, none⟩ = some (.int .i64 x) := (hbel.cell (p := ⟨b, _, none⟩) hbs).trans hc0
      have hkI : (k : Int) < n := by omega
      have hlk := hmk.lookup keyL Try.underlying76 zero_i64e x true
      obtain ⟨w2, hup, hmk2, hg2⟩ := hmk.update keyL Try.underlying76 x (.int .i64 k)
      have hb2 := hbel.grown hg2 hbel.size (fun q hq => by injection hq with hq; omega)
      have hup2 : (Instr.mapUpdate 76 (.map (some w.heap.size)) (.int .i64 x) (.int .i64 k)).run Try.prog wr = .ok () w2 := hup
      have hdrop : l.drop k = x :: l.drop (k + 1) := by
        obtain ⟨hlt', e⟩ := List.getElem?_eq_some_iff.1 hx
        rw [List.drop_eq_getElem_cons hlt', e]
      have HDR := Lib.hid hdrop
      have HM := Lib.hid hmk
      have HM2 := Lib.hid hmk2
      have HB := Lib.hid hbel
      have HB2 := Lib.hid hb2
      obtain ⟨fx, hfx⟩ : ∃ fx, f x = fx := ⟨_, rfl⟩
      have HFX := Lib.hid hfx
      simp only [hfx] at hlk
      clear hx hbs hc0 hup hmk hmk2 hg2 hbel hb2 hdrop hfx
      cases fx with
      | none =>
        have hl2 : (Instr.lookup 76 (.map (some w.heap.size)) (.int .i64 x) true).run Try.prog wr = .ok (.tuple #[.int .i64 0, .bool false]) wr := hlk
        clear hlk
        by_cases h4 : k < 4096
        · have h4I : (k : Int) < 4096 := by omega
          have hnx : R = numG keyL.eqb (k + 1) (fun y => if keyL.eqb y x = true then some (k : Int) else f y) (l.drop (k + 1)) := by
            rw [HRk.out, HDR.out, numG, if_pos ⟨by rw [HFX.out]; rfl, h4⟩]
          have HNX := Lib.hid hnx
          clear hnx
          go_wp2_with fail
          go_roundw
          case rel => exact ⟨k + 1, _, by omega, by go_num, HNX.out, HM2.out.congr keyL (fun y => by unfold upd; split <;> rfl), HB2.out⟩
          case measure => (simp [intOf]; try omega)
        · have h4I : ¬ (k : Int) < 4096 := by omega
          have hnx : R = numG keyL.eqb (k + 1) f (l.drop (k + 1)) := by
            rw [HRk.out, HDR.out, numG, if_neg (fun h => h4 h.2)]
          have HNX := Lib.hid hnx
          clear hnx
          go_wp2_with fail
          go_roundw
          case rel => exact ⟨k + 1, f, by omega, by go_num, HNX.out, HM.out, HB.out⟩
          case measure => (simp [intOf]; try omega)
      | some v =>
        have hl2 : (Instr.lookup 76 (.map (some w.heap.size)) (.int .i64 x) true).run Try.prog wr = .ok (.tuple #[.int .i64 v, .bool true]) wr := hlk
        clear hlk
        have hnx : R = numG keyL.eqb (k + 1) f (l.drop (k + 1)) := by
          rw [HRk.out, HDR.out, numG, if_neg (fun h => by rw [HFX.out] at h; simp at h)]
        have HNX := Lib.hid hnx
        clear hnx
        go_wp2_with fail
        go_roundw
        case rel => exact ⟨k + 1, f, by omega, by go_num, HNX.out, HM.out, HB.out⟩
        case measure => (simp [intOf]; try omega)
    · have hkk : k = n := by omega
      have hfin : R = f := by rw [HRk.out, List.drop_of_length_le (by rw [HN.out]; omega)]; rfl
      have HFIN := Lib.hid hfin
      have HM := Lib.hid hmk
      have HB := Lib.hid hbel
      clear hfin hmk hbel
      go_wp2_with fail
      go_ret
      exact ⟨_, rfl, Nat.le_refl _, by rw [HFIN.out]; exact HM.out, HB.out⟩
end Go.Proofs.Ytggibiodeecljaa
namespace Go.Proofs.Ytggibiodeecljaa
open Go.RowKit
set_option linter.unusedVariables false

/-- A list of texts that came in. -/
def TextsAt (w : World) (A : Option Addr) (l : List ByteArray) : Prop := ∀ k x, l[k]? = some x → ∃ b off, A = some ⟨b, off, none⟩ ∧ b < w.heap.size ∧ w.cell? ⟨b, off + k, none⟩ = some (.string x)
theorem TextsAt.below {w w' : World} {A : Option Addr} {l : List ByteArray} (h : TextsAt w A l) (hb : Below w.heap.size w w') : TextsAt w' A l := by
  intro k x hk
  obtain ⟨b, off, h1, h2, h3⟩ := h k x hk
  exact ⟨b, off, h1, Nat.lt_of_lt_of_le h2 hb.size, (hb.cell (p := ⟨b, _, none⟩) h2).trans h3⟩
set_option maxRecDepth 100000 in
set_option maxHeartbeats 1600000 in
theorem numbersS_any (A : Option Addr) (l : List ByteArray) (n c : Nat) (w : World) (hl : TextsAt w A l) (hn : l.length = n) (hl2 : n ≤ 100000000) :
    Calls Try.prog 40 #[.slice A n c] w fun e w' => ∃ mb, e = .returned (.map (some mb)) ∧ w.heap.size ≤ mb ∧ MK keyS w' mb (fun n => intO (numS l n)) ∧ Below w.heap.size w w' := by
  have hmm := @run_makeMap Try.prog
  obtain ⟨R, hR⟩ : ∃ R, R = numS l := ⟨_, rfl⟩
  rw [← hR]
  have HR := Lib.hid hR
  have HL := Lib.hid hl
  have HN := Lib.hid hn
  have m0 := MK.made keyS w
  have b0 : Below w.heap.size w (w.alloc (.map #[] 0)) := (Below.refl _ _).alloc (Nat.le_refl _) _
  have M0 := Lib.hid m0
  have B0 := Lib.hid b0
  clear hR hl hn m0 b0
  go_enter Try.func40, Try.ntmps40
  go_wp2_with fail
  go_loopw [4, 5, 6, 7, 11] (fun _ _ _ _ iv wr => ∃ (k : Nat) (f : ByteArray → Option Int), k ≤ n ∧ iv = .int .i64 k ∧ Hid (R = numG keyS.eqb k f (l.drop k)) ∧ MK keyS wr w.heap.size (fun n => intO (f n)) ∧ Below w.heap.size w wr) (fun _ _ _ _ iv _ => n - (intOf iv).toNat)
  case atStart => exact ⟨0, fun _ => none, by omega, rfl, by rw [HR.out]; rfl, M0.out, B0.out⟩
  case round =>
    obtain ⟨k, f, hkn, rfl, HRk, hmk, hbel⟩ := hrel
    by_cases hlt : k < n
    · obtain ⟨x, hx⟩ : ∃ x, l[k]? = some x := ⟨_, List.getElem?_eq_getElem (by rw [HN.out]; exact hlt)⟩
      obtain ⟨b, o, rfl, hbs, hc0⟩ := HL.out k x hx
      have hcj : wr.cell? ⟨b, o + k, none⟩ = some (.string x) := (hbel.cell (p := ⟨b, _, none⟩) hbs).trans hc0
      have hkI : (k : Int) < n := by omega
      have hlk := hmk.lookup keyS Try.underlying78 zero_i64e x true
      obtain ⟨w2, hup, hmk2, hg2⟩ := hmk.update keyS Try.underlying78 x (.int .i64 k)
      have hb2 := hbel.grown hg2 hbel.size (fun q hq => by injection hq with hq; omega)
      have hup2 : (Instr.mapUpdate 78 (.map (some w.heap.size)) (.string x) (.int .i64 k)).run Try.prog wr = .ok () w2 := hup
      have hdrop : l.drop k = x :: l.drop (k + 1) := by
        obtain ⟨hlt', e⟩ := List.getElem?_eq_some_iff.1 hx
        rw [List.drop_eq_getElem_cons hlt', e]
      have HDR := Lib.hid hdrop
      have HM := Lib.hid hmk
      have HM2 := Lib.hid hmk2
      have HB := Lib.hid hbel
      have HB2 := Lib.hid hb2
      obtain ⟨fx, hfx⟩ : ∃ fx, f x = fx := ⟨_, rfl⟩
      have HFX := Lib.hid hfx
      simp only [hfx] at hlk
      clear hx hbs hc0 hup hmk hmk2 hg2 hbel hb2 hdrop hfx
      cases fx with
      | none =>
        have hl2 : (Instr.lookup 78 (.map (some w.heap.size)) (.string x) true).run Try.prog wr = .ok (.tuple #[.int .i64 0, .bool false]) wr := hlk
        clear hlk
        by_cases h4 : k < 4096
        · have h4I : (k : Int) < 4096 := by omega
          have hnx : R = numG keyS.eqb (k + 1) (fun y => if keyS.eqb y x = true then some (k : Int) else f y) (l.drop (k + 1)) := by
            rw [HRk.out, HDR.out, numG, if_pos ⟨by rw [HFX.out]; rfl, h4⟩]
          have HNX := Lib.hid hnx
          clear hnx
          go_wp2_with fail
          go_roundw
          case rel => exact ⟨k + 1, _, by omega, by go_num, HNX.out, HM2.out.congr keyS (fun y => by unfold upd; split <;> rfl), HB2.out⟩
          case measure => (simp [intOf]; try omega)
        · have h4I : ¬ (k : Int) < 4096 := by omega
          have hnx : R = numG keyS.eqb (k + 1) f (l.drop (k + 1)) := by
            rw [HRk.out, HDR.out, numG, if_neg (fun h => h4 h.2)]
          have HNX := Lib.hid hnx
          clear hnx
          go_wp2_with fail
          go_roundw
          case rel => exact ⟨k + 1, f, by omega, by go_num, HNX.out, HM.out, HB.out⟩
          case measure => (simp [intOf]; try omega)
      | some v =>
        have hl2 : (Instr.lookup 78 (.map (some w.heap.size)) (.string x) true).run Try.prog wr = .ok (.tuple #[.int .i64 v, .bool true]) wr := hlk
        clear hlk
        have hnx : R = numG keyS.eqb (k + 1) f (l.drop (k + 1)) := by
          rw [HRk.out, HDR.out, numG, if_neg (fun h => by rw [HFX.out] at h; simp at h)]
        have HNX := Lib.hid hnx
        clear hnx
        go_wp2_with fail
        go_roundw
        case rel => exact ⟨k + 1, f, by omega, by go_num, HNX.out, HM.out, HB.out⟩
        case measure => (simp [intOf]; try omega)
    · have hkk : k = n := by omega
      have hfin : R = f := by rw [HRk.out, List.drop_of_length_le (by rw [HN.out]; omega)]; rfl
      have HFIN := Lib.hid hfin
      have HM := Lib.hid hmk
      have HB := Lib.hid hbel
      clear hfin hmk hbel
      go_wp2_with fail
      go_ret
      exact ⟨_, rfl, Nat.le_refl _, by rw [HFIN.out]; exact HM.out, HB.out⟩
end Go.Proofs.Ytggibiodeecljaa
namespace Go.Proofs.Ytggibiodeecljaa
open Go.RowKit
set_option linter.unusedVariables false

theorem info_i64l : (Try.prog.info? 2).map (fun i => (i.zero, i.size, i.bytes)) = some (some (.int .i64 0), 1, 8) := by kernel_rfl
theorem long_el : ElT Try.prog 26 2 1 8 := ⟨Try.underlying26, by decide, by
  obtain ⟨i0, hi, hz0, hz1, hz2⟩ := info_parts info_i64l
  exact ⟨i0, _, hi, hz0, hz1, hz2, rfl⟩⟩
theorem info_strl : (Try.prog.info? 9).map (fun i => (i.zero, i.size, i.bytes)) = some (some (.string ⟨#[]⟩), 1, 16) := by kernel_rfl
theorem text_el : ElT Try.prog 27 9 1 16 := ⟨Try.underlying27, by decide, by
  obtain ⟨i0, hi, hz0, hz1, hz2⟩ := info_parts info_strl
  exact ⟨i0, _, hi, hz0, hz1, hz2, rfl⟩⟩
def strVals (l : List ByteArray) : List Value := l.map Value.string
theorem row_cells {w : World} {e : TypeId} {base n c : Nat} {A : Option Addr} {xs : List Value} (h : w.ownsRow base e 1 (.slice A n c) n xs) : ∀ k v, xs[k]? = some v → ∃ b, A = some ⟨b, 0, none⟩ ∧ base ≤ b ∧ b < w.heap.size ∧ w.cell? ⟨b, k, none⟩ = some v := by
  intro k v hk
  have h1 := h.1
  simp only [Nat.mul_one] at h1
  have hlt := (List.getElem?_eq_some_iff.1 hk).1
  rcases h.2 with ⟨h2, h3⟩ | ⟨g, cap, cur, h2, h3, h4, _⟩
  · omega
  · injection h2 with h2 _ _
    subst h2
    refine ⟨g, rfl, h3, (h.lt g rfl).2, ?_⟩
    have := h.cells rfl k v hk
    rw [← this]
    congr 1
    unfold Addr.add
    cases k <;> simp
theorem own_longs {w : World} {S n c : Nat} {A : Option Addr} {l : List Int} (h : w.ownsRow S 2 1 (.slice A n c) n (intVals l)) : IntsAt w A l ∧ l.length = n := by
  have h1 := h.1
  simp only [intVals, List.length_map, Nat.mul_one] at h1
  refine ⟨fun k x hk => ?_, h1⟩
  obtain ⟨b, e, h2, h3, h4⟩ := row_cells h k (.int .i64 x) (by simp [intVals, hk])
  exact ⟨b, 0, e, h3, by rw [Nat.zero_add]; exact h4⟩
theorem own_texts {w : World} {S n c : Nat} {A : Option Addr} {l : List ByteArray} (h : w.ownsRow S 9 1 (.slice A n c) n (strVals l)) : TextsAt w A l ∧ l.length = n := by
  have h1 := h.1
  simp only [strVals, List.length_map, Nat.mul_one] at h1
  refine ⟨fun k x hk => ?_, h1⟩
  obtain ⟨b, e, h2, h3, h4⟩ := row_cells h k (.string x) (by simp [strVals, hk])
  exact ⟨b, 0, e, h3, by rw [Nat.zero_add]; exact h4⟩
theorem ints_row {w : World} {A : Option Addr} {l : List Int} (h : IntsAt w A l) (h0 : 0 < l.length) : ∃ b off, A = some ⟨b, off, none⟩ ∧ ∀ j v, (intVals l)[j]? = some v → w.cell? ((⟨b, off, none⟩ : Addr).add j) = some v := by
  obtain ⟨b, off, hA, _, _⟩ := h 0 _ (List.getElem?_eq_getElem h0)
  refine ⟨b, off, hA, fun j v hj => ?_⟩
  rw [intVals, List.getElem?_map, Option.map_eq_some_iff] at hj
  obtain ⟨x, hx, rfl⟩ := hj
  obtain ⟨b2, off2, e, _, hc⟩ := h j x hx
  rw [hA] at e
  injection e with e
  injection e with e1 e2
  subst e1 e2
  rw [show (⟨b, off, none⟩ : Addr).add j = ⟨b, off + j, none⟩ by unfold Addr.add; split <;> simp_all]
  exact hc
theorem texts_row {w : World} {A : Option Addr} {l : List ByteArray} (h : TextsAt w A l) (h0 : 0 < l.length) : ∃ b off, A = some ⟨b, off, none⟩ ∧ ∀ j v, (strVals l)[j]? = some v → w.cell? ((⟨b, off, none⟩ : Addr).add j) = some v := by
  obtain ⟨b, off, hA, _, _⟩ := h 0 _ (List.getElem?_eq_getElem h0)
  refine ⟨b, off, hA, fun j v hj => ?_⟩
  rw [strVals, List.getElem?_map, Option.map_eq_some_iff] at hj
  obtain ⟨x, hx, rfl⟩ := hj
  obtain ⟨b2, off2, e, _, hc⟩ := h j x hx
  rw [hA] at e
  injection e with e
  injection e with e1 e2
  subst e1 e2
  rw [show (⟨b, off, none⟩ : Addr).add j = ⟨b, off + j, none⟩ by unfold Addr.add; split <;> simp_all]
  exact hc
theorem intVals_one (l : List Int) : ∀ u ∈ intVals l, u.oneCell' = true := by
  intro u hu
  obtain ⟨x, _, rfl⟩ := List.mem_map.1 hu
  rfl
theorem strVals_one (l : List ByteArray) : ∀ u ∈ strVals l, u.oneCell' = true := by
  intro u hu
  obtain ⟨x, _, rfl⟩ := List.mem_map.1 hu
  rfl

set_option maxRecDepth 100000 in
set_option maxHeartbeats 800000 in
theorem copyL_any (A : Option Addr) (l : List Int) (n c : Nat) (w : World) (hn : l.length = n) (hl : n ≤ 100000000) (hS : IntsAt w A l) :
    Calls Try.prog 13 #[.slice A n c] w fun e w' => ∃ v, e = .returned v ∧ w'.ownsRow w.heap.size 2 1 v n (intVals l) ∧ Below w.heap.size w w' := by
  obtain ⟨i0, z0, hi0, hz0, hsz0, hby0, hzc0⟩ := long_el.info
  by_cases h0 : n = 0
  · subst h0
    have hn0 := List.length_eq_zero_iff.1 hn
    have hr := fun wx => run_append_nil0 (P := Try.prog) (w := wx) 26 26 2 i0 z0 long_el.und hi0 hz0 A c
    have HR := Lib.hid hr
    have HN := Lib.hid hn0
    clear hS hr hn hn0
    go_enter Try.func13, Try.ntmps13
    go_wp2_with (at_builtin; go_loud (refine wpList_append_run rfl _ _ 26 rfl _ _ _ _ rfl rfl (HR.out _) ?_))
    go_ret
    rw [HN.out]
    exact ⟨_, rfl, World.ownsRow_nil _ _ _ _, Below.refl _ _⟩
  · obtain ⟨b, off, rfl, hc⟩ := ints_row hS (by omega)
    have hz : (intVals l).length = n * 1 := by simp [intVals, hn]
    have HC := Lib.hid hc
    have HZ := Lib.hid hz
    have hone := intVals_one l
    have HO := Lib.hid hone
    clear hS hc hz hone hn
    go_enter Try.func13, Try.ntmps13
    go_wp2_with (at_builtin; go_loud (refine wpList_append_own w rfl _ _ 26 rfl w.heap.size 2 i0 z0 1 8 long_el.und hi0 hz0 hsz0 hby0 hzc0 (by decide) _ 0 [] rfl (World.ownsRow_nil _ _ _ _) ⟨b, off, none⟩ n c (intVals l) rfl HZ.out HC.out HO.out (by unfold maxLen; omega) (by omega) (Nat.le_refl _) ?_))
    intro v' w' h2 h3 _
    have H2 := Lib.hid h2
    have H3 := Lib.hid h3
    clear h2 h3
    go_wp2_with fail
    go_ret
    refine ⟨_, rfl, by simpa using H2.out, ?_⟩
    exact (Below.refl _ _).grown H3.out (Nat.le_refl _) (fun k hk => by simp [Value.ownBlock] at hk)
set_option maxRecDepth 100000 in
set_option maxHeartbeats 800000 in
theorem copyT_any (A : Option Addr) (l : List ByteArray) (n c : Nat) (w : World) (hn : l.length = n) (hl : n ≤ 100000000) (hS : TextsAt w A l) :
    Calls Try.prog 14 #[.slice A n c] w fun e w' => ∃ v, e = .returned v ∧ w'.ownsRow w.heap.size 9 1 v n (strVals l) ∧ Below w.heap.size w w' := by
  obtain ⟨i0, z0, hi0, hz0, hsz0, hby0, hzc0⟩ := text_el.info
  by_cases h0 : n = 0
  · subst h0
    have hn0 := List.length_eq_zero_iff.1 hn
    have hr := fun wx => run_append_nil0 (P := Try.prog) (w := wx) 27 27 9 i0 z0 text_el.und hi0 hz0 A c
    have HR := Lib.hid hr
    have HN := Lib.hid hn0
    clear hS hr hn hn0
    go_enter Try.func14, Try.ntmps14
    go_wp2_with (at_builtin; go_loud (refine wpList_append_run rfl _ _ 27 rfl _ _ _ _ rfl rfl (HR.out _) ?_))
    go_ret
    rw [HN.out]
    exact ⟨_, rfl, World.ownsRow_nil _ _ _ _, Below.refl _ _⟩
  · obtain ⟨b, off, rfl, hc⟩ := texts_row hS (by omega)
    have hz : (strVals l).length = n * 1 := by simp [strVals, hn]
    have HC := Lib.hid hc
    have HZ := Lib.hid hz
    have hone := strVals_one l
    have HO := Lib.hid hone
    clear hS hc hz hone hn
    go_enter Try.func14, Try.ntmps14
    go_wp2_with (at_builtin; go_loud (refine wpList_append_own w rfl _ _ 27 rfl w.heap.size 9 i0 z0 1 16 text_el.und hi0 hz0 hsz0 hby0 hzc0 (by decide) _ 0 [] rfl (World.ownsRow_nil _ _ _ _) ⟨b, off, none⟩ n c (strVals l) rfl HZ.out HC.out HO.out (by unfold maxLen; omega) (by omega) (Nat.le_refl _) ?_))
    intro v' w' h2 h3 _
    have H2 := Lib.hid h2
    have H3 := Lib.hid h3
    clear h2 h3
    go_wp2_with fail
    go_ret
    refine ⟨_, rfl, by simpa using H2.out, ?_⟩
    exact (Below.refl _ _).grown H3.out (Nat.le_refl _) (fun k hk => by simp [Value.ownBlock] at hk)
end Go.Proofs.Ytggibiodeecljaa
namespace Go.Proofs.Ytggibiodeecljaa
open Go.RowKit
set_option linter.unusedVariables false

/-- As many texts, and what is in them; it stops where that is past the bound. -/
def sizeX : List ByteArray → Int → Int
  | [], s => s
  | x :: r, s => if s ≤ 16777216 then sizeX r (s + (x.size : Int)) else s
theorem sizeX_ge : ∀ ts s, s ≤ sizeX ts s
  | [], s => by unfold sizeX; omega
  | x :: r, s => by
    unfold sizeX
    split
    · have := sizeX_ge r (s + (x.size : Int)); omega
    · omega
theorem dropX_at {l : List ByteArray} {j : Nat} {x : ByteArray} (h : l[j]? = some x) : l.drop j = x :: l.drop (j + 1) := by
  obtain ⟨hlt, e⟩ := List.getElem?_eq_some_iff.1 h
  rw [List.drop_eq_getElem_cons hlt, e]

set_option maxRecDepth 100000 in
set_option maxHeartbeats 800000 in
theorem sizeTexts_any (A : Option Addr) (l : List ByteArray) (c : Nat) (w : World) (hl : l.length ≤ 281474976710656) (hT : TextsAt w A l) (htx : ∀ x ∈ l, x.size ≤ 4611686018427387904) :
    Calls Try.prog 36 #[.slice A l.length c] w fun e w' => e = .returned (.int .i64 (sizeX l l.length)) ∧ w = w' := by
  obtain ⟨len, hlen⟩ : ∃ len, l.length = len := ⟨_, rfl⟩
  obtain ⟨R, hR⟩ : ∃ R, R = sizeX l l.length := ⟨_, rfl⟩
  rw [← hR]
  rw [hlen] at hR hl ⊢
  have hcell : ∀ i x, l[i]? = some x → ∃ b off, A = some ⟨b, off, none⟩ ∧ w.cell? ⟨b, off + i, none⟩ = some (.string x) := by
    intro i x hx
    obtain ⟨b, off, h1, h2, h3⟩ := hT i x hx
    exact ⟨b, off, h1, h3⟩
  have HR := Lib.hid hR
  have HL := Lib.hid hlen
  have HC := Lib.hid hcell
  have HTX := Lib.hid htx
  clear hR hlen hcell hT htx
  by_cases hA : len = 0
  · subst hA
    have hR0 : R = 0 := by
      have : l = [] := List.length_eq_zero_iff.1 HL.out
      rw [HR.out, this]; rfl
    have HR0 := Lib.hid hR0
    clear hR0
    go_enter Try.func36, Try.ntmps36
    go_wp2
    go_loop [3, 4] (fun s i => s = .int .i64 0 ∧ i = .int .i64 0) (fun _ _ => 0)
    case atStart => exact ⟨rfl, rfl⟩
    case round =>
      obtain ⟨rfl, rfl⟩ := hrel
      go_wp2
      go_ret
      exact ⟨ret_i64 HR0.out.symm, rfl⟩
  · obtain ⟨b2, off2, rfl, hdrop⟩ := HC.out 0 _ (List.getElem?_eq_getElem (by rw [HL.out]; omega))
    clear hdrop hA
    have hcell : ∀ i x, l[i]? = some x → w.cell? ⟨b2, off2 + i, none⟩ = some (.string x) := by
      intro i x hx
      obtain ⟨b, off, e, h⟩ := HC.out i x hx
      injection e with e
      injection e with e1 e2
      subst e1 e2
      exact h
    clear HC
    have HC := Lib.hid hcell
    clear hcell
    go_enter Try.func36, Try.ntmps36
    go_wp2
    go_loop [3, 4] (fun s i => ∃ (j : Nat) (S : Int), j ≤ len ∧ 0 ≤ S ∧ S ≤ 4611967493404098560 ∧ Hid (R = sizeX (l.drop j) S) ∧ s = .int .i64 S ∧ i = .int .i64 j) (fun _ i => len - (intOf i).toNat)
    case atStart => exact ⟨0, len, by omega, by omega, by omega, HR, rfl, rfl⟩
    case round =>
      obtain ⟨j, S, hj, hS0, hS1, H, rfl, rfl⟩ := hrel
      by_cases hjl : j < len
      · obtain ⟨x, hx⟩ : ∃ x, l[j]? = some x := ⟨_, List.getElem?_eq_getElem (by rw [HL.out]; exact hjl)⟩
        have hs : R = if S ≤ 16777216 then sizeX (l.drop (j + 1)) (S + (x.size : Int)) else S := by rw [H.out, dropX_at hx, sizeX]
        have hsz := HTX.out x (List.mem_of_getElem? hx)
        have hcj := HC.out j x hx
        have HS := Lib.hid hs
        clear hs hx
        by_cases h1 : S ≤ 16777216
        · go_wp2
          go_round
          case rel => exact ⟨j + 1, S + (x.size : Int), by omega, by omega, by omega, by rw [if_pos h1] at HS; exact HS, by go_num, by go_num⟩
          case measure => simp [intOf]; omega
        · go_wp2
          go_ret
          exact ⟨ret_i64 (by rw [HS.out, if_neg (by omega)]), rfl⟩
      · have hs : R = S := by
          rw [H.out, List.drop_of_length_le (by rw [HL.out]; omega), sizeX]
        have HS := Lib.hid hs
        clear hs
        go_wp2
        go_ret
        exact ⟨ret_i64 HS.out.symm, rfl⟩
end Go.Proofs.Ytggibiodeecljaa
