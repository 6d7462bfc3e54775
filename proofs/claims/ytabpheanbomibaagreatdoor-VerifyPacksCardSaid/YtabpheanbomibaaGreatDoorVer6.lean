/- append of a whole row, empty or not, onto a row of the call's own. verify: rows of kinds in memory; slices.Clone. -/
import Derived.Test.YtabpheanbomibaaGreatDoorBits
import Derived.Test.YtabpheanbomibaaGreatDoorVer5
namespace Go.Proofs.YtabpheanbomibaaGreatDoor
open Go.RowKit
set_option linter.unusedVariables false

theorem run_append_zero {P : Program} {w : World} (t ty e : TypeId) (i : TypeInfo) (ht : P.underlying t = some (.slice e)) (hi : P.info? e = some i) (S : Option Addr) (n cap : Nat) (A : Option Addr) (c : Nat) (hnc : n ≤ cap) :
    (Builtin.append_ #[t, t] ty #[.slice S n cap, .slice A 0 c]).run P w = .ok (.slice S n cap) w := by
  cases A <;> cases S <;> simp [Builtin.append_, run_underlying ht, sizeOf, typeInfo, hi, Builtin.lenOf, Builtin.firstCells, loadCells, loadCellsFrom, storeCells, hnc]
theorem run_append_any {P : Program} {w : World} (base : Nat) (t ty e : TypeId) {size bytes : Nat} (E : ElT P t e size bytes) (v : Value) (n : Nat) (xs : List Value) (hown : w.ownsRow base e size v n xs)
    (A : Option Addr) (m c : Nat) (news : List Value) (hl : news.length = m * size) (hsrc : 0 < m → ∃ ad, A = some ad ∧ ∀ j u, news[j]? = some u → w.cell? (ad.add j) = some u) (h1 : ∀ u ∈ news, u.oneCell' = true)
    (h63 : n + m ≤ maxLen) (hbytes : (n + m) * bytes ≤ 140737488355328) (hbase : base ≤ w.heap.size) :
    ∃ v' w', (Builtin.append_ #[t, t] ty #[v, .slice A m c]).run P w = .ok v' w' ∧ w'.ownsRow base e size v' (n + m) (xs ++ news) ∧ w.grownBy w' v.ownBlock := by
  obtain ⟨i, z, hi, hz, hsz, hby, hzc⟩ := E.info
  by_cases h0 : m = 0
  · subst h0
    obtain rfl : news = [] := List.eq_nil_of_length_eq_zero (by simpa using hl)
    obtain ⟨S, cap, rfl, hnc⟩ : ∃ S cap, v = .slice S n cap ∧ n ≤ cap := by
      rcases hown.2 with ⟨rfl, rfl⟩ | ⟨g, cap, cur, rfl, _, _, h, _⟩
      · exact ⟨none, 0, rfl, Nat.le_refl _⟩
      · exact ⟨_, cap, rfl, h⟩
    refine ⟨_, w, run_append_zero t ty e i E.und hi S n cap A c hnc, by simpa using hown, ⟨rfl, rfl, rfl, Nat.le_refl _, fun _ _ _ => rfl⟩⟩
  · obtain ⟨ad, rfl, hc⟩ := hsrc (by omega)
    obtain ⟨v', w', h2, h3, h4, _⟩ := run_append_own (P := P) w base t ty e i z size bytes E.und hi hz hsz hby hzc E.pos v n xs hown ad m c news hl hc h1 h63 hbytes hbase
    exact ⟨v', w', h2, h3, h4⟩
end Go.Proofs.YtabpheanbomibaaGreatDoor
namespace Go.Proofs.YtabpheanbomibaaGreatDoor
open Go.RowKit
set_option linter.unusedVariables false

/-- A row of kinds in a block of kinds. -/
def Row8 (w : World) (A : Option Addr) (l : List Int) : Prop :=
  ∀ k x, l[k]? = some x → ∃ b off cs fr, A = some ⟨b, off, none⟩ ∧ w.heap[b]? = some (.cells cs 82 fr) ∧ w.cell? ⟨b, off + k, none⟩ = some (.int .i8 x)
theorem Row8.smalls {w : World} {A : Option Addr} {l : List Int} (h : Row8 w A l) : SmallsAt w A l := fun k x hk => by
  obtain ⟨b, off, cs, fr, h1, h2, h3⟩ := h k x hk
  exact ⟨b, off, h1, (Array.getElem?_eq_some_iff.1 h2).1, h3⟩
theorem Row8.nil (w : World) (A : Option Addr) : Row8 w A [] := fun k x h => by simp at h
theorem Row8.frm {B : Nat} {T : List TypeId} {w w' : World} {A : Option Addr} {l : List Int} (h : Row8 w A l) (hf : Frm B T w w') (ht : 82 ∉ T) : Row8 w' A l := fun k x hk => by
  obtain ⟨b, off, cs, fr, h1, h2, h3⟩ := h k x hk
  have hk := hf.kept b cs _ fr h2 ht
  exact ⟨b, off, cs, fr, h1, hk.trans h2, by rw [World.cell?_of_block (w := w) hk]; exact h3⟩
theorem Row8.own {w : World} {B n c : Nat} {A : Option Addr} {l : List Int} (h : w.ownsRow B 82 1 (.slice A n c) n (l.map (Value.int .i8))) : Row8 w A l := fun k x hk => by
  have hx : (l.map (Value.int .i8))[k]? = some (.int .i8 x) := by rw [List.getElem?_map, hk]; rfl
  have hkn : k < n := by
    have h1 := h.1
    have h2 := (List.getElem?_eq_some_iff.1 hk).1
    simp at h1
    omega
  obtain ⟨h1, h2⟩ := h
  have hown : w.ownsRow B 82 1 (.slice A n c) n (l.map (Value.int .i8)) := ⟨h1, h2⟩
  rcases h2 with ⟨h2, rfl⟩ | ⟨g, cap, cur, h2, h3, h4, _⟩
  · omega
  · injection h2 with h2 _ h9
    subst h2
    refine ⟨g, 0, cur, (0, 0), rfl, h4, ?_⟩
    rw [Nat.zero_add]
    exact (World.ownsRow.cellAt hown k (by omega)).trans hx
theorem own_base {w : World} {B C n sz : Nat} {e : TypeId} {v : Value} {xs : List Value} (h : w.ownsRow C e sz v n xs) (hB : B ≤ C) : w.ownsRow B e sz v n xs := by
  obtain ⟨h1, h2⟩ := h
  refine ⟨h1, ?_⟩
  rcases h2 with h2 | ⟨g, cap, cur, e1, e2, r⟩
  · exact .inl h2
  · exact .inr ⟨g, cap, cur, e1, by omega, r⟩
set_option maxRecDepth 100000 in
set_option maxHeartbeats 2000000 in
theorem clone8_any (A : Option Addr) (l : List Int) (c : Nat) (w : World) (hl : l.length ≤ 1000) (h : SmallsAt w A l) :
    Calls Tryz.prog 111 #[.slice A l.length c] w fun e w' => ∃ A' c', e = .returned (.slice A' l.length c') ∧ w'.ownsRow w.heap.size 82 1 (.slice A' l.length c') l.length (l.map (Value.int .i8)) ∧ Below w.heap.size w w' := by
  cases A with
  | none =>
    have hn : l = [] := by
      cases l with
      | nil => rfl
      | cons x r => obtain ⟨b, off, h1, _⟩ := h 0 x rfl; cases h1
    subst hn
    clear h
    simp only [List.length_nil, List.map_nil]
    have hq : ∀ w : World, (binOp .eql 23 (.slice none 0 c) (.slice none 0 0)).run Tryz.prog w = .ok (.bool true) w := fun _ => by kernel_rfl
    go_enter Tryz.func111, Tryz.ntmps111
    go_wp2_with fail
    go_ret
    exact ⟨none, 0, rfl, World.ownsRow_nil _ _ _ _, Below.refl _ _⟩
  | some a =>
    obtain ⟨W, hW⟩ : ∃ W, W = w.alloc (.cells #[] 82) := ⟨_, rfl⟩
    have hb0 : Blk W w.heap.size 82 #[] := by rw [hW]; exact Blk.new _ _ _
    have ho : W.ownsRow w.heap.size 82 1 (.slice (some ⟨w.heap.size, 0, none⟩) 0 0) 0 [] := ⟨rfl, .inr ⟨w.heap.size, 0, #[], rfl, Nat.le_refl _, hb0, Nat.le_refl _, by unfold maxLen; omega, rfl, rfl⟩⟩
    have hbW : Below w.heap.size w W := by rw [hW]; exact (Below.refl _ _).alloc (Nat.le_refl _) _
    have hsW := h.below hbW
    obtain ⟨v', w', hr, ho', hg⟩ := run_append_any (P := Tryz.prog) (w := W) w.heap.size 23 23 82 slot_el _ 0 [] ho (some a) l.length c (l.map (Value.int .i8)) (by simp) (fun h0 => ⟨a, rfl, fun j u hj => by
      rw [List.getElem?_map] at hj
      obtain ⟨x, hx, rfl⟩ := Option.map_eq_some_iff.1 hj
      obtain ⟨b, off, e1, _, e3⟩ := hsW j x hx
      injection e1 with e1
      subst e1
      rw [show (⟨b, off, none⟩ : Addr).add j = ⟨b, off + j, none⟩ by by_cases hj0 : j = 0 <;> simp [Addr.add, hj0]]
      exact e3⟩) (by intro u hu; obtain ⟨y, _, rfl⟩ := List.mem_map.1 hu; rfl) (by unfold maxLen; omega) (by omega) (by rw [hW]; simp)
    simp only [Nat.zero_add, List.nil_append] at ho'
    obtain ⟨A', c', rfl⟩ := own_form ho'
    have hb' : Below w.heap.size w w' := hbW.grown hg hbW.size (fun k e => by simp [Value.ownBlock] at e; omega)
    rw [hW] at hr
    have HO := Lib.hid ho'
    have HB := Lib.hid hb'
    have HR := Lib.hid hr
    obtain ⟨n, hn⟩ : ∃ n, l.length = n := ⟨_, rfl⟩
    rw [hn] at HR HO hl ⊢
    have hq : ∀ w : World, (binOp .eql 23 (.slice (some a) n c) (.slice none 0 0)).run Tryz.prog w = .ok (.bool false) w := fun _ => by kernel_rfl
    clear hr ho' hb' hg hsW hbW ho hb0 hW h
    go_enter Tryz.func111, Tryz.ntmps111
    go_wp2_with (at_builtin; go_loud (refine wpList_append_run rfl _ _ 23 rfl _ _ _ _ rfl rfl HR.out ?_))
    go_ret
    exact ⟨A', c', rfl, HO.out, HB.out⟩
end Go.Proofs.YtabpheanbomibaaGreatDoor
