/- tableauref00: CopySmalls, CopyBytes: copies that are the call's own. -/
import Derived.Test.YtabpheanbomibaaGreatDoorBits
import Derived.Test.YtabpheanbomibaaGreatDoorRead
namespace Go.Proofs.YtabpheanbomibaaGreatDoor
open Go.RowKit
set_option linter.unusedVariables false

theorem info_u8v : (Tryz.prog.info? 5).map (fun i => (i.zero, i.size, i.bytes)) = some (some (.int .u8 0), 1, 1) := by kernel_rfl
theorem byteV_el : ElT Tryz.prog 22 5 1 1 := ⟨Tryz.underlying22, by decide, by
  obtain ⟨i0, hi, hz0, hz1, hz2⟩ := info_parts info_u8v
  exact ⟨i0, _, hi, hz0, hz1, hz2, rfl⟩⟩
def smallV (l : List Int) : List Value := l.map (Value.int .i8)
def byteV (l : List Int) : List Value := l.map (Value.int .u8)
theorem smallV_one (l : List Int) : ∀ u ∈ smallV l, u.oneCell' = true := by intro u hu; obtain ⟨y, _, rfl⟩ := List.mem_map.1 hu; rfl
theorem byteV_one (l : List Int) : ∀ u ∈ byteV l, u.oneCell' = true := by intro u hu; obtain ⟨y, _, rfl⟩ := List.mem_map.1 hu; rfl
theorem rowV_cells {w : World} {e : TypeId} {base n c : Nat} {A : Option Addr} {xs : List Value} (h : w.ownsRow base e 1 (.slice A n c) n xs) : ∀ k v, xs[k]? = some v → ∃ b, A = some ⟨b, 0, none⟩ ∧ base ≤ b ∧ b < w.heap.size ∧ w.cell? ⟨b, k, none⟩ = some v := by
  intro k v hk
  have h1 := h.1
  simp only [Nat.mul_one] at h1
  have hlt := (List.getElem?_eq_some_iff.1 hk).1
  rcases h.2 with ⟨h2, h3⟩ | ⟨g, cap, cur, h2, h3, h4, _⟩
  · omega
  · injection h2 with h2 _ _
    subst h2
    refine ⟨g, rfl, h3, (h.lt g rfl).2, ?_⟩
    have := h.cells rfl k v hk
    rw [← this]
    congr 1
    unfold Addr.add
    cases k <;> simp
theorem own_smallV {w : World} {S n c : Nat} {A : Option Addr} {l : List Int} (h : w.ownsRow S 82 1 (.slice A n c) n (smallV l)) : SmallsAt w A l ∧ l.length = n := by
  have h1 := h.1
  simp only [smallV, List.length_map, Nat.mul_one] at h1
  refine ⟨fun k x hk => ?_, h1⟩
  obtain ⟨b, e, h2, h3, h4⟩ := rowV_cells h k (.int .i8 x) (by simp [smallV, hk])
  exact ⟨b, 0, e, h3, by rw [Nat.zero_add]; exact h4⟩
theorem own_byteV {w : World} {S n c : Nat} {A : Option Addr} {l : List Int} (h : w.ownsRow S 5 1 (.slice A n c) n (byteV l)) (hb : ∀ x ∈ l, 0 ≤ x ∧ x ≤ 255) : BytesAt w A l ∧ l.length = n ∧ n ≤ c := by
  have h1 := h.1
  simp only [byteV, List.length_map, Nat.mul_one] at h1
  refine ⟨⟨hb, fun k x hk => ?_⟩, h1, ?_⟩
  · obtain ⟨b, e, h2, h3, h4⟩ := rowV_cells h k (.int .u8 x) (by simp [byteV, hk])
    exact ⟨b, 0, e, h3, by rw [Nat.zero_add]; exact h4⟩
  · rcases h.2 with ⟨h2, h3⟩ | ⟨g, cap, cur, h2, _, _, h3, _⟩
    · omega
    · injection h2 with _ _ e; omega
theorem smallV_row {w : World} {A : Option Addr} {l : List Int} (h : SmallsAt w A l) (h0 : 0 < l.length) : ∃ b off, A = some ⟨b, off, none⟩ ∧ ∀ j v, (smallV l)[j]? = some v → w.cell? ((⟨b, off, none⟩ : Addr).add j) = some v := by
  obtain ⟨b, off, hA, _, _⟩ := h 0 _ (List.getElem?_eq_getElem h0)
  refine ⟨b, off, hA, fun j v hj => ?_⟩
  rw [smallV, List.getElem?_map, Option.map_eq_some_iff] at hj
  obtain ⟨x, hx, rfl⟩ := hj
  obtain ⟨b2, off2, e, _, hc⟩ := h j x hx
  rw [hA] at e
  injection e with e
  injection e with e1 e2
  subst e1 e2
  rw [show (⟨b, off, none⟩ : Addr).add j = ⟨b, off + j, none⟩ by unfold Addr.add; split <;> simp_all]
  exact hc
theorem byteV_row {w : World} {A : Option Addr} {l : List Int} (h : BytesAt w A l) (h0 : 0 < l.length) : ∃ b off, A = some ⟨b, off, none⟩ ∧ ∀ j v, (byteV l)[j]? = some v → w.cell? ((⟨b, off, none⟩ : Addr).add j) = some v := by
  obtain ⟨b, off, hA, _, _⟩ := h.at_ 0 _ (List.getElem?_eq_getElem h0)
  refine ⟨b, off, hA, fun j v hj => ?_⟩
  rw [byteV, List.getElem?_map, Option.map_eq_some_iff] at hj
  obtain ⟨x, hx, rfl⟩ := hj
  obtain ⟨b2, off2, e, _, hc⟩ := h.at_ j x hx
  rw [hA] at e
  injection e with e
  injection e with e1 e2
  subst e1 e2
  rw [show (⟨b, off, none⟩ : Addr).add j = ⟨b, off + j, none⟩ by unfold Addr.add; split <;> simp_all]
  exact hc
set_option maxRecDepth 100000 in
set_option maxHeartbeats 800000 in
theorem cpS_any (A : Option Addr) (l : List Int) (n c : Nat) (w : World) (hn : l.length = n) (hl : n ≤ 100000000) (hS : SmallsAt w A l) :
    Calls Tryz.prog 124 #[.slice A n c] w fun e w' => ∃ v, e = .returned v ∧ w'.ownsRow w.heap.size 82 1 v n (smallV l) ∧ Below w.heap.size w w' := by
  obtain ⟨i0, z0, hi0, hz0, hsz0, hby0, hzc0⟩ := slot_el.info
  by_cases h0 : n = 0
  · subst h0
    have hn0 := List.length_eq_zero_iff.1 hn
    have hr := fun wx => run_append_nil0 (P := Tryz.prog) (w := wx) 23 23 82 i0 z0 slot_el.und hi0 hz0 A c
    have HR := Lib.hid hr
    have HN := Lib.hid hn0
    clear hS hr hn hn0
    go_enter Tryz.func124, Tryz.ntmps124
    go_wp2_with (at_builtin; go_loud (refine wpList_append_run rfl _ _ 23 rfl _ _ _ _ rfl rfl (HR.out _) ?_))
    go_ret
    rw [HN.out]
    exact ⟨_, rfl, World.ownsRow_nil _ _ _ _, Below.refl _ _⟩
  · obtain ⟨b, off, rfl, hc⟩ := smallV_row hS (by omega)
    have hz : (smallV l).length = n * 1 := by simp [smallV, hn]
    have HC := Lib.hid hc
    have HZ := Lib.hid hz
    have hone := smallV_one l
    have HO := Lib.hid hone
    clear hS hc hz hone hn
    go_enter Tryz.func124, Tryz.ntmps124
    go_wp2_with (at_builtin; go_loud (refine wpList_append_own w rfl _ _ 23 rfl w.heap.size 82 i0 z0 1 1 slot_el.und hi0 hz0 hsz0 hby0 hzc0 (by decide) _ 0 [] rfl (World.ownsRow_nil _ _ _ _) ⟨b, off, none⟩ n c (smallV l) rfl HZ.out HC.out HO.out (by unfold maxLen; omega) (by omega) (Nat.le_refl _) ?_))
    intro v' w' h2 h3 _
    have H2 := Lib.hid h2
    have H3 := Lib.hid h3
    clear h2 h3
    go_wp2_with fail
    go_ret
    refine ⟨_, rfl, by simpa using H2.out, ?_⟩
    exact (Below.refl _ _).grown H3.out (Nat.le_refl _) (fun k hk => by simp [Value.ownBlock] at hk)
set_option maxRecDepth 100000 in
set_option maxHeartbeats 800000 in
theorem cpB_any (A : Option Addr) (l : List Int) (n c : Nat) (w : World) (hn : l.length = n) (hl : n ≤ 100000000) (hS : BytesAt w A l) :
    Calls Tryz.prog 15 #[.slice A n c] w fun e w' => ∃ v, e = .returned v ∧ w'.ownsRow w.heap.size 5 1 v n (byteV l) ∧ Below w.heap.size w w' := by
  obtain ⟨i0, z0, hi0, hz0, hsz0, hby0, hzc0⟩ := byteV_el.info
  by_cases h0 : n = 0
  · subst h0
    have hn0 := List.length_eq_zero_iff.1 hn
    have hr := fun wx => run_append_nil0 (P := Tryz.prog) (w := wx) 22 22 5 i0 z0 byteV_el.und hi0 hz0 A c
    have HR := Lib.hid hr
    have HN := Lib.hid hn0
    clear hS hr hn hn0
    go_enter Tryz.func15, Tryz.ntmps15
    go_wp2_with (at_builtin; go_loud (refine wpList_append_run rfl _ _ 22 rfl _ _ _ _ rfl rfl (HR.out _) ?_))
    go_ret
    rw [HN.out]
    exact ⟨_, rfl, World.ownsRow_nil _ _ _ _, Below.refl _ _⟩
  · obtain ⟨b, off, rfl, hc⟩ := byteV_row hS (by omega)
    have hz : (byteV l).length = n * 1 := by simp [byteV, hn]
    have HC := Lib.hid hc
    have HZ := Lib.hid hz
    have hone := byteV_one l
    have HO := Lib.hid hone
    clear hS hc hz hone hn
    go_enter Tryz.func15, Tryz.ntmps15
    go_wp2_with (at_builtin; go_loud (refine wpList_append_own w rfl _ _ 22 rfl w.heap.size 5 i0 z0 1 1 byteV_el.und hi0 hz0 hsz0 hby0 hzc0 (by decide) _ 0 [] rfl (World.ownsRow_nil _ _ _ _) ⟨b, off, none⟩ n c (byteV l) rfl HZ.out HC.out HO.out (by unfold maxLen; omega) (by omega) (Nat.le_refl _) ?_))
    intro v' w' h2 h3 _
    have H2 := Lib.hid h2
    have H3 := Lib.hid h3
    clear h2 h3
    go_wp2_with fail
    go_ret
    refine ⟨_, rfl, by simpa using H2.out, ?_⟩
    exact (Below.refl _ _).grown H3.out (Nat.le_refl _) (fun k hk => by simp [Value.ownBlock] at hk)
end Go.Proofs.YtabpheanbomibaaGreatDoor
