/- Nodes in memory: a row of nodes, read cell by cell; the block that a node is copied into. -/
import Derived.Test.YtocekmgjhdlkgaaGreatDoorMaps
import Derived.WalkSpells
import Derived.WalkLawsBesides
import Derived.Lib.Hide
import Derived.BigQuiet
namespace Go.Proofs.YtocekmgjhdlkgaaGreatDoor
open Go.RowKit

structure Node where
  op : Int
  kind : Int
  n : Int
  m : Int
  text : ByteArray
  pos : Int
  kids : Int

def Node.cells (x : Node) : List Value := [.int .i8 x.op, .int .i8 x.kind, .int .i64 x.n, .int .i64 x.m, .string x.text, .int .i64 x.pos, .int .i64 x.kids]
def node0 : Node := ⟨0, 0, 0, 0, ByteArray.empty, 0, 0⟩

/-- The row at block b from off on holds these nodes. -/
def NodesAt (w : World) (b off : Nat) (ts : List Node) : Prop := ∀ i x, ts[i]? = some x → ∀ j v, x.cells[j]? = some v → w.cell? ⟨b, off + i * 7 + j, none⟩ = some v

section
variable {w w' : World} {b off : Nat} {ts : List Node} {i : Nat} {x : Node}
theorem NodesAt.below {B : Nat} (h : NodesAt w b off ts) (hb : Below B w w') (hB : b < B) : NodesAt w' b off ts :=
  fun i x hx j v hv => (hb.cell (p := ⟨b, _, none⟩) hB).trans (h i x hx j v hv)
theorem NodesAt.op (h : NodesAt w b off ts) (hx : ts[i]? = some x) : w.cell? ⟨b, off + i * 7, none⟩ = some (.int .i8 x.op) := h i x hx 0 _ rfl
theorem NodesAt.kind (h : NodesAt w b off ts) (hx : ts[i]? = some x) : w.cell? ⟨b, off + i * 7 + 1, none⟩ = some (.int .i8 x.kind) := h i x hx 1 _ rfl
theorem NodesAt.n (h : NodesAt w b off ts) (hx : ts[i]? = some x) : w.cell? ⟨b, off + i * 7 + 2, none⟩ = some (.int .i64 x.n) := h i x hx 2 _ rfl
theorem NodesAt.m (h : NodesAt w b off ts) (hx : ts[i]? = some x) : w.cell? ⟨b, off + i * 7 + 3, none⟩ = some (.int .i64 x.m) := h i x hx 3 _ rfl
theorem NodesAt.text (h : NodesAt w b off ts) (hx : ts[i]? = some x) : w.cell? ⟨b, off + i * 7 + 4, none⟩ = some (.string x.text) := h i x hx 4 _ rfl
theorem NodesAt.pos (h : NodesAt w b off ts) (hx : ts[i]? = some x) : w.cell? ⟨b, off + i * 7 + 5, none⟩ = some (.int .i64 x.pos) := h i x hx 5 _ rfl
theorem NodesAt.kids (h : NodesAt w b off ts) (hx : ts[i]? = some x) : w.cell? ⟨b, off + i * 7 + 6, none⟩ = some (.int .i64 x.kids) := h i x hx 6 _ rfl
/-- All seven at once. -/
theorem NodesAt.all (h : NodesAt w b off ts) (hx : ts[i]? = some x) : w.cell? ⟨b, off + i * 7, none⟩ = some (.int .i8 x.op) ∧ w.cell? ⟨b, off + i * 7 + 1, none⟩ = some (.int .i8 x.kind) ∧ w.cell? ⟨b, off + i * 7 + 2, none⟩ = some (.int .i64 x.n) ∧
    w.cell? ⟨b, off + i * 7 + 3, none⟩ = some (.int .i64 x.m) ∧ w.cell? ⟨b, off + i * 7 + 4, none⟩ = some (.string x.text) ∧ w.cell? ⟨b, off + i * 7 + 5, none⟩ = some (.int .i64 x.pos) ∧ w.cell? ⟨b, off + i * 7 + 6, none⟩ = some (.int .i64 x.kids) :=
  ⟨h.op hx, h.kind hx, h.n hx, h.m hx, h.text hx, h.pos hx, h.kids hx⟩
end

/-- Block g is known whole. -/
def Blk (w : World) (g : Nat) (t : TypeId) (cs : Array Value) : Prop := w.heap[g]? = some (.cells cs t (0, 0))
section
variable {w w' : World} {g : Nat} {t : TypeId} {cs : Array Value}
theorem Blk.lt (h : Blk w g t cs) : g < w.heap.size := (Array.getElem?_eq_some_iff.1 h).1
theorem Blk.cell (h : Blk w g t cs) (i : Nat) : w.cell? ⟨g, i, none⟩ = cs[i]? := cell_of_row w g i cs t (0, 0) h
theorem Blk.frozen (h : Blk w g t cs) (i : Nat) : w.frozen? ⟨g, i, none⟩ = false := by
  unfold Blk at h
  simp [World.frozen?, h]
theorem Blk.new (w : World) (t : TypeId) (cs : Array Value) : Blk (w.alloc (.cells cs t)) w.heap.size t cs := heap_alloc_new w _
theorem Blk.drew (h : Blk w g t cs) : Blk w.drew g t cs := h
theorem Blk.drewN (h : Blk w g t cs) (n : Nat) : Blk (w.drewN n) g t cs := h
theorem Blk.alloc (h : Blk w g t cs) (o : Obj) : Blk (w.alloc o) g t cs := (Below.heap_alloc w o g h.lt).trans h
theorem Blk.set_ (h : Blk w g t cs) (i : Nat) (u : Value) : Blk (w.setCell ⟨g, i, none⟩ u) g t (cs.setIfInBounds i u) := by
  unfold Blk at h ⊢
  simp [World.setCell, Array.getElem?_modify, h]
theorem Blk.far (h : Blk w g t cs) {p : Addr} (hp : g ≠ p.block) (u : Value) : Blk (w.setCell p u) g t cs := (Below.heap_setCell w p u g hp).trans h
theorem Blk.below {B : Nat} (h : Blk w g t cs) (hb : Below B w w') (hg : g < B) : Blk w' g t cs := (hb.block g hg).trans h
theorem Blk.grown {row : Option Nat} (h : Blk w g t cs) (hb : w.grownBy w' row) (hg : some g ≠ row) : Blk w' g t cs := (hb.block g h.lt hg).trans h
theorem Blk.ne_ {g' : Nat} {t' : TypeId} {cs' : Array Value} (h : Blk w g t cs) (h' : Blk w g' t' cs') (hne : t ≠ t') : g ≠ g' := by
  rintro rfl
  unfold Blk at h h'
  rw [h] at h'
  injection h' with h'
  injection h' with _ ht
  exact hne ht
theorem own_blk_ne {base : Nat} {e : TypeId} {size n : Nat} {v : Value} {xs : List Value} (h : w.ownsRow base e size v n xs) (hg : Blk w g t cs) (hne : e ≠ t) : v.ownBlock ≠ some g := by
  rcases h.2 with ⟨rfl, _⟩ | ⟨g', cap, cur, rfl, _, hh, _⟩
  · simp [Value.ownBlock]
  · intro he
    have : g' = g := by simpa [Value.ownBlock] using he
    subst this
    exact Blk.ne_ (t := e) hh hg hne rfl
theorem grownBy_set (w : World) {p : Addr} {row : Option Nat} (hr : row = some p.block) (u : Value) : w.grownBy (w.setCell p u) row :=
  ⟨rfl, rfl, rfl, by simp [World.setCell], fun i _ hi => Below.heap_setCell w p u i (fun e => hi (by rw [hr, e]))⟩
theorem own_setCell {base : Nat} {e : TypeId} {size n : Nat} {v : Value} {xs : List Value} (h : w.ownsRow base e size v n xs) {p : Addr} (hne : v.ownBlock ≠ some p.block) (u : Value) : (w.setCell p u).ownsRow base e size v n xs :=
  h.kept (grownBy_set w rfl u) (.inr hne)
theorem MK.blk_ne {P : Program} {k : TypeId} {κ : Type} {K : KeyT P k κ} {b : Nat} {f : κ → Option Value} (h : MK K w b f) (hg : Blk w g t cs) : b ≠ g := by
  rintro rfl
  obtain ⟨es, clock, l, hb, _⟩ := h
  unfold Blk at hg
  rw [hb] at hg
  cases hg
theorem MK.own_ne {P : Program} {k : TypeId} {κ : Type} {K : KeyT P k κ} {b : Nat} {f : κ → Option Value} (h : MK K w b f) {base : Nat} {e : TypeId} {size n : Nat} {v : Value} {xs : List Value} (ho : w.ownsRow base e size v n xs) : v.ownBlock ≠ some b := by
  rcases ho.2 with ⟨rfl, _⟩ | ⟨g', cap, cur, rfl, _, hh, _⟩
  · simp [Value.ownBlock]
  · intro he
    have : g' = b := by simpa [Value.ownBlock] using he
    subst this
    exact MK.blk_ne h (g := g') (t := e) hh rfl
end

/-- A slice type's row of the table. -/
structure ElT (P : Program) (t e : TypeId) (size bytes : Nat) : Prop where
  und : P.underlying t = some (.slice e)
  pos : 0 < size
  info : ∃ i z, P.info? e = some i ∧ i.zero = some z ∧ i.size = size ∧ i.bytes = bytes ∧ z.cells.size = size

theorem grownBy_of_alloc {w w' : World} {o : Obj} {row : Option Nat} (h : (w.alloc o).grownBy w' row) : w.grownBy w' row :=
  ⟨h.os, h.tape, h.output, Nat.le_trans (by simp) h.size, fun i hi hne => (h.block i (by simp; omega) hne).trans (Below.heap_alloc w o i hi)⟩

/-- 'x = append(x, u)': one element more, onto a row of the call's own. -/
theorem wpList_append1 {P : Program} {w : World} {ops : Array Oper} {rest : List Oper} {o : Oper} {a : Act} {Q : Exit → Act → World → Prop} {t e : TypeId} {size bytes : Nat} (E : ElT P t e size bytes) (hgd : o.guard = none) (s x : Operand)
    (ho : o.op = .call { callee := .builtin .append, args := #[s, x], argTypes := #[t, t] })
    (base : Nat) (wr : World) (us : List Value) (hw : w = wr.alloc (.cells us.toArray e)) (v : Value) (n : Nat) (xs : List Value) (hs : a.eval s = v) (hown : wr.ownsRow base e size v n xs)
    (hx : a.eval x = .slice (some ⟨wr.heap.size, 0, none⟩) 1 1) (hus : us.length = size) (h1 : ∀ u ∈ us, u.oneCell' = true)
    (h63 : n + 1 ≤ maxLen) (hbytes : (n + 1) * bytes ≤ 140737488355328) (hbase : base ≤ wr.heap.size)
    (h : ∀ v' w', w'.ownsRow base e size v' (n + 1) (xs ++ us) → wr.grownBy w' v.ownBlock → wpList P ops Q rest (a.put o.dst v') w') : wpList P ops Q (o :: rest) a w := by
  subst hw
  obtain ⟨i, z, hi, hz, hsz, hby, hzc⟩ := E.info
  refine wpList_append_own _ hgd s x t ho base e i z size bytes E.und hi hz hsz hby hzc E.pos v n xs hs (hown.alloc _) ⟨wr.heap.size, 0, none⟩ 1 1 us hx (by omega) ?_ h1 h63 hbytes (by simp; omega) fun v' w' h2 h3 _ => h v' w' h2 (grownBy_of_alloc h3)
  intro j u hj
  have : (wr.alloc (.cells us.toArray e)).cell? ⟨wr.heap.size, j, none⟩ = some u := by
    rw [Blk.cell (Blk.new wr e us.toArray) j]
    simpa using hj
  rw [← this]
  congr 1
  unfold Addr.add
  split <;> simp_all

theorem ownsRow_lt {w : World} {base : Nat} {e : TypeId} {size n : Nat} {v : Value} {xs : List Value} (h : w.ownsRow base e size v n xs) {g : Nat} (hg : v.ownBlock = some g) : base ≤ g ∧ g < w.heap.size := h.lt g hg
theorem Below.of_own {B base : Nat} {w0 wr w' : World} {e : TypeId} {size n : Nat} {v : Value} {xs : List Value} (h : Below B w0 wr) (ho : wr.ownsRow base e size v n xs) (hg : wr.grownBy w' v.ownBlock) (hB : B ≤ base) (hs : B ≤ wr.heap.size) : Below B w0 w' :=
  h.grown hg hs fun k hk => Nat.le_trans hB (ho.lt k hk).1

/-- FROM w TO w': below block B nothing has turned; of the rows of cells that were there, those alone whose elements' type is in T. -/
structure Frm (B : Nat) (T : List TypeId) (w w' : World) : Prop where
  below : Below B w w'
  kept : ∀ (g : Nat) (cs : Array Value) (t : TypeId) (fr : Nat × Nat), w.heap[g]? = some (Obj.cells cs t fr) → t ∉ T → w'.heap[g]? = w.heap[g]?

section
variable {B : Nat} {T : List TypeId} {w w' a b c : World}
theorem Frm.refl (B : Nat) (T : List TypeId) (w : World) : Frm B T w w := ⟨Below.refl _ _, fun _ _ _ _ _ _ => rfl⟩
theorem Frm.trans (h : Frm B T a b) (k : Frm B T b c) : Frm B T a c :=
  ⟨h.below.trans k.below, fun g cs t fr hg ht => (k.kept g cs t fr ((h.kept g cs t fr hg ht).trans hg) ht).trans (h.kept g cs t fr hg ht)⟩
theorem Frm.more {T' : List TypeId} (h : Frm B T w w') (hT : ∀ t, t ∈ T → t ∈ T') : Frm B T' w w' := ⟨h.below, fun g cs t fr hg ht => h.kept g cs t fr hg (fun x => ht (hT t x))⟩
theorem Frm.size (h : Frm B T w w') : w.heap.size ≤ w'.heap.size := h.below.size
theorem Frm.alloc (h : Frm B T a w) (hB : B ≤ w.heap.size) (o : Obj) : Frm B T a (w.alloc o) :=
  ⟨h.below.alloc hB o, fun g cs t fr hg ht => by
    have h1 := h.kept g cs t fr hg ht
    have h2 : g < w.heap.size := (Array.getElem?_eq_some_iff.1 (h1.trans hg)).1
    rw [Below.heap_alloc w o g h2, h1]⟩
theorem Frm.drew (h : Frm B T a w) : Frm B T a w.drew := ⟨h.below.drew, h.kept⟩
theorem Frm.drewN (h : Frm B T a w) (n : Nat) : Frm B T a (w.drewN n) := ⟨⟨h.below.os, h.below.tape, h.below.output, h.below.size, h.below.block⟩, h.kept⟩
theorem Frm.set_ (h : Frm B T a w) {g i : Nat} {t : TypeId} {cs : Array Value} (hg : Blk w g t cs) (hB : B ≤ g) (ht : t ∈ T) (u : Value) : Frm B T a (w.setCell ⟨g, i, none⟩ u) :=
  ⟨h.below.setCell hB u, fun g' cs' t' fr' hg' ht' => by
    have h1 := h.kept g' cs' t' fr' hg' ht'
    rw [Below.heap_setCell w _ u g' ?_, h1]
    rintro rfl
    have h2 := (h1.trans hg').symm.trans hg
    injection h2 with h2
    injection h2 with _ h3
    exact ht' (h3 ▸ ht)⟩
/-- A store into a block that was not there at the beginning. -/
theorem Frm.setNew (h : Frm B T a w) {p : Addr} (hp : a.heap.size ≤ p.block) (hB : B ≤ a.heap.size) (u : Value) : Frm B T a (w.setCell p u) :=
  ⟨h.below.setCell (Nat.le_trans hB hp) u, fun g' cs' t' fr' hg' ht' => by
    have h2 : g' < a.heap.size := (Array.getElem?_eq_some_iff.1 hg').1
    rw [Below.heap_setCell w p u g' (by omega), h.kept g' cs' t' fr' hg' ht']⟩
theorem Frm.of_below (h : Below w.heap.size w w') (hB : B ≤ w.heap.size) : Frm B T w w' :=
  ⟨h.mono hB, fun g _ _ _ hg _ => h.block g (Array.getElem?_eq_some_iff.1 hg).1⟩
theorem Frm.blk {g : Nat} {t : TypeId} {cs : Array Value} (h : Frm B T w w') (hg : Blk w g t cs) (ht : t ∉ T) : Blk w' g t cs := (h.kept g cs t (0, 0) hg ht).trans hg
theorem Frm.own {base : Nat} {e : TypeId} {size n : Nat} {v : Value} {xs : List Value} (h : Frm B T w w') (ho : w.ownsRow base e size v n xs) (ht : e ∉ T) : w'.ownsRow base e size v n xs := by
  obtain ⟨h1, h2⟩ := ho
  refine ⟨h1, ?_⟩
  rcases h2 with h2 | ⟨g, cap, cur, hv, hg, hh, r⟩
  · exact .inl h2
  · exact .inr ⟨g, cap, cur, hv, hg, (h.kept g cur e (0, 0) hh ht).trans hh, r⟩
theorem Frm.grown {base : Nat} {e : TypeId} {size n : Nat} {v : Value} {xs : List Value} (h : Frm B T a w) (ho : w.ownsRow base e size v n xs) (hg : w.grownBy w' v.ownBlock) (hB : B ≤ base) (hs : B ≤ w.heap.size) (ht : e ∈ T) : Frm B T a w' := by
  refine ⟨Below.of_own h.below ho hg hB hs, fun g cs t fr hg' ht' => ?_⟩
  have h1 := h.kept g cs t fr hg' ht'
  rw [hg.block g (Array.getElem?_eq_some_iff.1 (h1.trans hg')).1 ?_, h1]
  rcases ho.2 with ⟨rfl, _⟩ | ⟨g', cap, cur, rfl, _, hh, _⟩
  · simp [Value.ownBlock]
  · simp only [Value.ownBlock, ne_eq, Option.some.injEq]
    rintro rfl
    have h2 := (h1.trans hg').symm.trans hh
    injection h2 with h2
    injection h2 with _ h3
    exact ht' (h3 ▸ ht)
theorem Frm.map {P : Program} {k : TypeId} {κ : Type} {K : KeyT P k κ} {m : Nat} {f : κ → Option Value} (h : Frm B T a w) (hm : MK K w m f) (hB : B ≤ m) (hg : w.grownBy w' (some m)) (hs : B ≤ w.heap.size) : Frm B T a w' := by
  refine ⟨h.below.grown hg hs (fun k hk => by injection hk with hk; omega), fun g cs t fr hg' ht' => ?_⟩
  have h1 := h.kept g cs t fr hg' ht'
  rw [hg.block g (Array.getElem?_eq_some_iff.1 (h1.trans hg')).1 ?_, h1]
  rintro e
  injection e with e
  subst e
  obtain ⟨es, clock, l, hb, _⟩ := hm
  rw [h1, hg'] at hb
  cases hb
theorem Frm.nodes {b off : Nat} {ts : List Node} (h : Frm B T w w') (hn : NodesAt w b off ts) (hb : b < B) : NodesAt w' b off ts := hn.below h.below hb
end
end Go.Proofs.YtocekmgjhdlkgaaGreatDoor
