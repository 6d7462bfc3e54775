/- verify: rows of kinds in memory; slices.Clone. -/
import Derived.Test.YtggibiodeecljaaVer5
import Derived.Test.YtggibiodeecljaaAppO
namespace Go.Proofs.Ytggibiodeecljaa
open Go.RowKit
set_option linter.unusedVariables false

/-- A row of kinds in a block of kinds. -/
def Row8 (w : World) (A : Option Addr) (l : List Int) : Prop :=
  ∀ k x, l[k]? = some x → ∃ b off cs fr, A = some ⟨b, off, none⟩ ∧ w.heap[b]? = some (.cells cs 40 fr) ∧ w.cell? ⟨b, off + k, none⟩ = some (.int .i8 x)
theorem Row8.smalls {w : World} {A : Option Addr} {l : List Int} (h : Row8 w A l) : SmallsAt w A l := fun k x hk => by
  obtain ⟨b, off, cs, fr, h1, h2, h3⟩ := h k x hk
  exact ⟨b, off, h1, (Array.getElem?_eq_some_iff.1 h2).1, h3⟩
theorem Row8.nil (w : World) (A : Option Addr) : Row8 w A [] := fun k x h => by simp at h
theorem Row8.frm {B : Nat} {T : List TypeId} {w w' : World} {A : Option Addr} {l : List Int} (h : Row8 w A l) (hf : Frm B T w w') (ht : 40 ∉ T) : Row8 w' A l := fun k x hk => by
  obtain ⟨b, off, cs, fr, h1, h2, h3⟩ := h k x hk
  have hk := hf.kept b cs _ fr h2 ht
  exact ⟨b, off, cs, fr, h1, hk.trans h2, by rw [World.cell?_of_block (w := w) hk]; exact h3⟩
theorem Row8.own {w : World} {B n c : Nat} {A : Option Addr} {l : List Int} (h : w.ownsRow B 40 1 (.slice A n c) n (l.map (Value.int .i8))) : Row8 w A l := fun k x hk => by
  have hx : (l.map (Value.int .i8))[k]? = some (.int .i8 x) := by rw [List.getElem?_map, hk]; rfl
  have hkn : k < n := by
    have h1 := h.1
    have h2 := (List.getElem?_eq_some_iff.1 hk).1
    simp at h1
    omega
  obtain ⟨h1, h2⟩ := h
  have hown : w.ownsRow B 40 1 (.slice A n c) n (l.map (Value.int .i8)) := ⟨h1, h2⟩
  rcases h2 with ⟨h2, rfl⟩ | ⟨g, cap, cur, h2, h3, h4, _⟩
  · omega
  · injection h2 with h2 _ h9
    subst h2
    refine ⟨g, 0, cur, (0, 0), rfl, h4, ?_⟩
    rw [Nat.zero_add]
    exact (World.ownsRow.cellAt hown k (by omega)).trans hx
theorem own_base {w : World} {B C n sz : Nat} {e : TypeId} {v : Value} {xs : List Value} (h : w.ownsRow C e sz v n xs) (hB : B ≤ C) : w.ownsRow B e sz v n xs := by
  obtain ⟨h1, h2⟩ := h
  refine ⟨h1, ?_⟩
  rcases h2 with h2 | ⟨g, cap, cur, e1, e2, r⟩
  · exact .inl h2
  · exact .inr ⟨g, cap, cur, e1, by omega, r⟩
set_option maxRecDepth 100000 in
set_option maxHeartbeats 2000000 in
theorem clone8_any (A : Option Addr) (l : List Int) (c : Nat) (w : World) (hl : l.length ≤ 1000) (h : SmallsAt w A l) :
    Calls Try.prog 146 #[.slice A l.length c] w fun e w' => ∃ A' c', e = .returned (.slice A' l.length c') ∧ w'.ownsRow w.heap.size 40 1 (.slice A' l.length c') l.length (l.map (Value.int .i8)) ∧ Below w.heap.size w w' := by
  cases A with
  | none =>
    have hn : l = [] := by
      cases l with
      | nil => rfl
      | cons x r => obtain ⟨b, off, h1, _⟩ := h 0 x rfl; cases h1
    subst hn
    clear h
    simp only [List.length_nil, List.map_nil]
    have hq : ∀ w : World, (binOp .eql 22 (.slice none 0 c) (.slice none 0 0)).run Try.prog w = .ok (.bool true) w := fun _ => by kernel_rfl
    go_enter Try.func146, Try.ntmps146
    go_wp2_with fail
    go_ret
    exact ⟨none, 0, rfl, World.ownsRow_nil _ _ _ _, Below.refl _ _⟩
  | some a =>
    obtain ⟨W, hW⟩ : ∃ W, W = w.alloc (.cells #[] 40) := ⟨_, rfl⟩
    have hb0 : Blk W w.heap.size 40 #[] := by rw [hW]; exact Blk.new _ _ _
    have ho : W.ownsRow w.heap.size 40 1 (.slice (some ⟨w.heap.size, 0, none⟩) 0 0) 0 [] := ⟨rfl, .inr ⟨w.heap.size, 0, #[], rfl, Nat.le_refl _, hb0, Nat.le_refl _, by unfold maxLen; omega, rfl, rfl⟩⟩
    have hbW : Below w.heap.size w W := by rw [hW]; exact (Below.refl _ _).alloc (Nat.le_refl _) _
    have hsW := h.below hbW
    obtain ⟨v', w', hr, ho', hg⟩ := run_append_any (P := Try.prog) (w := W) w.heap.size 22 22 40 slot_el _ 0 [] ho (some a) l.length c (l.map (Value.int .i8)) (by simp) (fun h0 => ⟨a, rfl, fun j u hj => by
      rw [List.getElem?_map] at hj
      obtain ⟨x, hx, rfl⟩ := Option.map_eq_some_iff.1 hj
      obtain ⟨b, off, e1, _, e3⟩ := hsW j x hx
      injection e1 with e1
      subst e1
      rw [show (⟨b, off, none⟩ : Addr).add j = ⟨b, off + j, none⟩ by by_cases hj0 : j = 0 <;> simp [Addr.add, hj0]]
      exact e3⟩) (by intro u hu; obtain ⟨y, _, rfl⟩ := List.mem_map.1 hu; rfl) (by unfold maxLen; omega) (by omega) (by rw [hW]; simp)
    simp only [Nat.zero_add, List.nil_append] at ho'
    obtain ⟨A', c', rfl⟩ := own_form ho'
    have hb' : Below w.heap.size w w' := hbW.grown hg hbW.size (fun k e => by simp [Value.ownBlock] at e; omega)
    rw [hW] at hr
    have HO := Lib.hid ho'
    have HB := Lib.hid hb'
    have HR := Lib.hid hr
    obtain ⟨n, hn⟩ : ∃ n, l.length = n := ⟨_, rfl⟩
    rw [hn] at HR HO hl ⊢
    have hq : ∀ w : World, (binOp .eql 22 (.slice (some a) n c) (.slice none 0 0)).run Try.prog w = .ok (.bool false) w := fun _ => by kernel_rfl
    clear hr ho' hb' hg hsW hbW ho hb0 hW h
    go_enter Try.func146, Try.ntmps146
    go_wp2_with (at_builtin; go_loud (refine wpList_append_run rfl _ _ 22 rfl _ _ _ _ rfl rfl HR.out ?_))
    go_ret
    exact ⟨A', c', rfl, HO.out, HB.out⟩
end Go.Proofs.Ytggibiodeecljaa
