/- verify: rows of kinds cut and joined. -/
import Derived.Test.YtggibiodeecljaaVer7
namespace Go.Proofs.Ytggibiodeecljaa
open Go.RowKit
set_option linter.unusedVariables false

theorem addr_add (b off j : Nat) : (⟨b, off, none⟩ : Addr).add j = ⟨b, off + j, none⟩ := by by_cases hj0 : j = 0 <;> simp [Addr.add, hj0]
theorem smalls_news {w : World} {b off : Nat} {l : List Int} (h : SmallsAt w (some ⟨b, off, none⟩) l) : ∀ j v, (l.map (Value.int .i8))[j]? = some v → w.cell? ((⟨b, off, none⟩ : Addr).add j) = some v := fun j v hj => by
  rw [List.getElem?_map, Option.map_eq_some_iff] at hj
  obtain ⟨x, hx, rfl⟩ := hj
  obtain ⟨b2, off2, e, _, hc⟩ := h j x hx
  injection e with e
  injection e with e1 e2
  subst e1 e2
  rw [addr_add]
  exact hc
theorem smalls_addr {w : World} {A : Option Addr} {l : List Int} (h : SmallsAt w A l) (hp : 0 < l.length) : ∃ b off, A = some ⟨b, off, none⟩ := by
  obtain ⟨b, off, e, _⟩ := h 0 _ (List.getElem?_eq_getElem hp)
  exact ⟨b, off, e⟩
theorem row8_new (w : World) (l : List Int) (z : List Value) : Row8 (w.alloc (.cells ((l.map (Value.int .i8)).toArray ++ z.toArray) 40)) (some ⟨w.heap.size, 0, none⟩) l := fun k x hk => by
  have hb := Blk.new w 40 ((l.map (Value.int .i8)).toArray ++ z.toArray)
  refine ⟨w.heap.size, 0, _, _, rfl, hb, ?_⟩
  rw [Nat.zero_add, hb.cell, Array.getElem?_append_left (by have := (List.getElem?_eq_some_iff.1 hk).1; simpa using this)]
  simp [hk]
/-- A row without room, and another one behind it. -/
theorem bare_app (w : World) (A G : Option Addr) (bare g : List Int) (cg : Nat) (hb : Row8 w A bare) (hg : SmallsAt w G g) (hl : bare.length ≤ 1000) (hm : g.length ≤ 1000) (hA : A = none ∨ ∃ b off, A = some ⟨b, off, none⟩) :
    ∃ A' c' W, (Builtin.append_ #[22, 22] 22 #[.slice A bare.length bare.length, .slice G g.length cg]).run Try.prog w = .ok (.slice A' (bare.length + g.length) c') W ∧ Row8 W A' (bare ++ g) ∧ Below w.heap.size w W := by
  obtain ⟨i0, z0, hi0, hz0, hsz0, hby0, hzc0⟩ := slot_el.info
  by_cases h0 : g = []
  · subst h0
    refine ⟨A, bare.length, w, ?_, by simpa using hb, Below.refl _ _⟩
    exact run_append_zero (P := Try.prog) (w := w) 22 22 40 i0 slot_el.und hi0 A bare.length bare.length G cg (Nat.le_refl _)
  · have hp : 0 < g.length := List.length_pos_iff.2 h0
    obtain ⟨gb, go, rfl⟩ := smalls_addr hg hp
    have hn := smalls_news hg
    rcases hA with rfl | ⟨b, off, rfl⟩
    · have hbn : bare = [] := by
        cases bare with
        | nil => rfl
        | cons x r => obtain ⟨b, off, _, _, e, _⟩ := hb 0 x rfl; cases e
      subst hbn
      have hr := run_append_nil (P := Try.prog) (w := w) 22 22 40 i0 z0 slot_el.und hi0 hz0 ⟨gb, go, none⟩ g.length cg (g.map (Value.int .i8)) (by rw [hsz0]; simp) hn hp (by omega) (by rw [hby0]; omega)
      refine ⟨_, _, _, by simpa using hr, ?_, (Below.refl _ _).drew.alloc (by show w.heap.size ≤ w.heap.size; omega) _⟩
      have := row8_new w.drew g (Builtin.zeroCells z0.cells (grownCap w g.length 0 40 - g.length)).toList
      simpa using this
    · have ho := smalls_news hb.smalls
      have hr := run_append_grow (P := Try.prog) (w := w) 22 22 40 i0 z0 slot_el.und hi0 hz0 ⟨b, off, none⟩ bare.length bare.length (bare.map (Value.int .i8)) (by rw [hsz0]; simp) ho ⟨gb, go, none⟩ g.length cg (g.map (Value.int .i8)) (by rw [hsz0]; simp) hn (by omega) (by omega) (by rw [hby0]; exact growslice_fits (by omega) (by omega))
      refine ⟨_, _, _, hr, ?_, (Below.refl _ _).drew.alloc (by show w.heap.size ≤ w.heap.size; omega) _⟩
      have := row8_new w.drew (bare ++ g) (Builtin.zeroCells z0.cells (grownCap w (bare.length + g.length) bare.length 40 - (bare.length + g.length))).toList
      simpa using this
end Go.Proofs.Ytggibiodeecljaa
