/- looker.stmt: the closure 'many'; what begins every way. -/
import Derived.Test.YtggibiodeecljaaBlock
namespace Go.Proofs.Ytggibiodeecljaa
open Go.RowKit

theorem cellsAt_blk {w : World} {b : Nat} {t : TypeId} {xs : List Value} (h : Blk w b t xs.toArray) : CellsAt w b 0 xs := by
  intro k v hk
  rw [Nat.zero_add, h.cell k, ← hk]
  simp
section
variable {B kb tb toff cap : Nat} {ts : List Node} {i : Nat} {x : Node} {bk bn bq base n c : Nat} {A : Option Addr} {w0 w : World} {s : LSt}
set_option maxRecDepth 100000 in
set_option maxHeartbeats 800000 in
theorem many_any (h : StC B kb tb toff cap ts i x bk bn bq base n c A w0 s w) (l : List Int) (lb cl ln : Nat) (hll : l.length = ln) (hl3 : ln ≤ 3) (hlb : Blk w lb 3 (l.map (Value.int .i64)).toArray) (b : Bool) (hb : containsM l n = b) :
    Calls Try.prog 159 #[.slice (some ⟨lb, 0, none⟩) ln cl, .pointer (some ⟨bk, 0, none⟩), .pointer (some ⟨bq, 0, none⟩)] w fun e w' => e = .returned (.bool (!(s.must b).bad)) ∧
      LK w' B kb (.slice (some ⟨tb, toff, none⟩) ts.length cap) (s.must b) ∧ Frm B [132] w w' := by
  subst hll
  have e1 := h.b1.cell 0
  have e3 := h.b3.cell 0
  have hcn := contains_any lb 0 cl l n w.drew (by omega) (cellsAt_blk hlb.drew)
  rw [hb] at hcn
  have H := Lib.hid h.lk
  have HB1 := Lib.hid h.b1
  have HB3 := Lib.hid h.b3
  have HCN := Lib.hid hcn
  clear hcn h hlb hb
  go_enter Try.func159, Try.ntmps159
  go_wp2_with fail
  go_region_held3 (fun w' => w'.cell? ⟨bk, 0, none⟩ = some (.pointer (some ⟨kb, 0, none⟩)) ∧ w'.cell? ⟨bq, 0, none⟩ = some (.slice A n c)) (first | exact ⟨e1, e3⟩ | exact ⟨e12, e32⟩) ((first | (go_at_call 160; refine HCN.out.mono ?_; rintro e w1 ⟨rfl, rfl⟩) | (go_at_call 111; refine (must_any B kb _ s b _ H.out.drew).mono ?_; rintro e w2 ⟨rfl, h2, f2⟩; have e12 := (f2.blk HB1.out.drew (by decide)).cell 0; have e32 := (f2.blk HB3.out.drew (by decide)).cell 0)))
  all_goals go_wp2_with fail
  all_goals go_ret
  all_goals exact ⟨rfl, h2, (Frm.refl _ _ _).drew.trans f2⟩
theorem StC.cells (h : StC B kb tb toff cap ts i x bk bn bq base n c A w0 s w) : w.cell? ⟨bk, 0, none⟩ = some (.pointer (some ⟨kb, 0, none⟩)) ∧ w.cell? ⟨bn, 0, none⟩ = some (.int .i8 x.op) ∧ w.cell? ⟨bn, 2, none⟩ = some (.int .i64 x.n) ∧
    w.cell? ⟨bn, 3, none⟩ = some (.int .i64 x.m) ∧ w.cell? ⟨bq, 0, none⟩ = some (.slice A n c) :=
  ⟨h.b1.cell 0, h.b2.cell 0, h.b2.cell 2, h.b2.cell 3, h.b3.cell 0⟩
theorem StC.size (h : StC B kb tb toff cap ts i x bk bn bq base n c A w0 s w) : B ≤ w.heap.size := by have := h.lk.size; omega
theorem chain_le {ts : List Node} : ∀ (l : List Nat) (p q : Nat), Chain ts p q l → p + l.length ≤ q
  | [], p, q, h => by simp only [Chain] at h; simp; omega
  | k :: r, p, q, h => by
    have := chain_le r _ _ h.2.2.2
    have := h.2.2.1
    simp only [List.length_cons]; omega
theorem behind_le {ts : List Node} {i : Nat} (h : 0 ≤ behind ts i) : (behind ts i).toNat ≤ ts.length := by
  rw [behind_eq] at h ⊢
  rcases hz : (sizes ts.length ts)[i]? with _ | _ | z <;> rw [hz] at h <;> simp only at h ⊢
  · omega
  · omega
  · have := size_pos hz; omega
theorem kidsOf_le {ts : List Node} {i : Nat} (h : 0 ≤ behind ts i) (hl : ts.length ≤ 100000) : (kidsOf ts i).length ≤ 100000 := by
  have h1 := chain_le _ _ _ (kidsOf_chain h)
  have h2 := behind_le h
  omega
/-- The kids' call, the looker's box and the node's copy laid ahead of it; the kids' box behind it. -/
theorem stmt_kids (B kb tb toff cap : Nat) (ts : List Node) (s : LSt) (i n : Nat) (x : Node) (w : World) (hl : ts.length ≤ 100000) (h : LK w B kb (.slice (some ⟨tb, toff, none⟩) ts.length cap) s)
    (hn : NodesAt w tb toff ts) (htb : tb < B) (hi : i < ts.length) (hnk : (kidsOf ts i).length = n) :
    Calls Try.prog 114 #[.slice (some ⟨tb, toff, none⟩) ts.length cap, .int .i64 i] ((w.alloc (.cells #[.pointer (some ⟨kb, 0, none⟩)] 129)).alloc (.cells x.cells.toArray 42)) fun e w1 => ∃ A c, e = .returned (.slice A n c) ∧
      StC B kb tb toff cap ts i x w.heap.size (w.heap.size + 1) w1.heap.size (w.heap.size + 2) n c A w s (w1.alloc (.cells #[.slice A n c] 153)) := by
  obtain ⟨hB, hks⟩ := h.size
  have hn0 : NodesAt (w.alloc (.cells #[.pointer (some ⟨kb, 0, none⟩)] 129)) tb toff ts := hn.below ((Below.refl B _).alloc (by omega) _) htb
  have b1 := Blk.new w 129 #[.pointer (some ⟨kb, 0, none⟩)]
  refine (kids_pre B kb tb toff cap ts s i x.cells.toArray _ hl (h.alloc _) hn0 htb hi [132, 40]).mono ?_
  rintro e w1 ⟨kv, rfl, ho, hlk, hf, hn1, b2⟩
  simp only [World.size_alloc] at ho b2
  rw [hnk] at ho
  obtain ⟨A, c, rfl⟩ := own_form ho
  have b1' := hf.blk b1 (by decide)
  have hsz := hf.size
  simp only [World.size_alloc] at hsz
  have hf0 : Frm B [132, 40] w w1 := ((Frm.refl B _ w).alloc (by omega) _).trans hf
  refine ⟨A, c, rfl, hlk.alloc _, hf0.alloc (by omega) _, htb, hn1.below ((Below.refl B _).alloc (by omega) _) htb, b1'.alloc _, b2.alloc _, Blk.new w1 _ _, ho.alloc _⟩
end
section
variable {B kb tb toff cap : Nat} {ts : List Node} {i : Nat} {x : Node} {bk bn bq base n c : Nat} {A : Option Addr} {w0 w : World} {slots : List Int} {seen : Int → Option Value}
theorem many_yes (h : StC B kb tb toff cap ts i x bk bn bq base n c A w0 ⟨slots, seen, false⟩ w) (l : List Int) (lb cl ln : Nat) (hll : l.length = ln) (hl3 : ln ≤ 3) (hlb : Blk w lb 3 (l.map (Value.int .i64)).toArray) (hb : containsM l n = true) :
    Calls Try.prog 159 #[.slice (some ⟨lb, 0, none⟩) ln cl, .pointer (some ⟨bk, 0, none⟩), .pointer (some ⟨bq, 0, none⟩)] w fun e w' => e = .returned (.bool true) ∧
      LK w' B kb (.slice (some ⟨tb, toff, none⟩) ts.length cap) ⟨slots, seen, false⟩ ∧ Frm B [132] w w' := many_any h l lb cl ln hll hl3 hlb true hb
theorem many_no (h : StC B kb tb toff cap ts i x bk bn bq base n c A w0 ⟨slots, seen, false⟩ w) (l : List Int) (lb cl ln : Nat) (hll : l.length = ln) (hl3 : ln ≤ 3) (hlb : Blk w lb 3 (l.map (Value.int .i64)).toArray) (hb : containsM l n = false) :
    Calls Try.prog 159 #[.slice (some ⟨lb, 0, none⟩) ln cl, .pointer (some ⟨bk, 0, none⟩), .pointer (some ⟨bq, 0, none⟩)] w fun e w' => e = .returned (.bool false) ∧
      LK w' B kb (.slice (some ⟨tb, toff, none⟩) ts.length cap) ⟨slots, seen, true⟩ ∧ Frm B [132] w w' := many_any h l lb cl ln hll hl3 hlb false hb
theorem blk_new1 (w : World) (o : Obj) (t : TypeId) (cs : Array Value) : Blk ((w.alloc o).alloc (.cells cs t)) (w.heap.size + 1) t cs := by
  have := Blk.new (w.alloc o) t cs
  simpa using this
theorem contains1 (a n : Nat) : containsM [(a : Int)] n = decide (n = a) := by
  by_cases h : (a : Int) = n
  · have : n = a := by omega
    subst this
    simp [containsM, indexM]
  · have h2 : ¬ n = a := by omega
    simp [containsM, indexM, h, h2]
theorem contains2 (a b n : Nat) : containsM [(a : Int), (b : Int)] n = decide (n = a ∨ n = b) := by
  by_cases h : (a : Int) = n
  · have : n = a := by omega
    subst this
    simp [containsM, indexM]
  · by_cases h3 : (b : Int) = n
    · have : n = b := by omega
      subst this
      simp [containsM, indexM, h]
    · have h2 : ¬ n = a := by omega
      have h4 : ¬ n = b := by omega
      simp [containsM, indexM, h, h2, h3, h4]
/-- A kid's place in the kids' row. -/
theorem StC.kid0 {x : Node} (h : StC B kb tb toff cap ts i x bk bn bq base n c A w0 ⟨slots, seen, false⟩ w) (h0 : 0 < n) : ∃ gk, A = some ⟨gk, 0, none⟩ := by
  obtain ⟨A', c', e1, h1⟩ := kids_form h.own
  injection e1 with e1 e2 e3
  subst e1
  obtain ⟨gk, h3, _⟩ := h1 h0
  exact ⟨gk, h3⟩
theorem StC.kidCell {s : LSt} {gk : Nat} (h : StC B kb tb toff cap ts i x bk bn bq base n c (some ⟨gk, 0, none⟩) w0 s w) (hnk : (kidsOf ts i).length = n) (p j : Nat) (hp : (kidsOf ts i)[p]? = some j) : w.cell? ⟨gk, p, none⟩ = some (.int .i64 j) := by
  have hlt := (List.getElem?_eq_some_iff.1 hp).1
  rw [h.own.cellAt p (by omega)]
  simp [hp]
theorem StC.kidCap {s : LSt} (h : StC B kb tb toff cap ts i x bk bn bq base n c A w0 s w) : n ≤ c := by
  rcases h.own.2 with ⟨h1, h2⟩ | ⟨g', cp, cu, h1, h2, h3, h4, h5, h6⟩
  · injection h1 with h1 h3 h4; omega
  · injection h1 with h1 h3 h4; omega
theorem StC.kidLt {s : LSt} {gk : Nat} (h : StC B kb tb toff cap ts i x bk bn bq base n c (some ⟨gk, 0, none⟩) w0 s w) : gk < w.heap.size := (h.own.lt gk rfl).2

/-- What the looker does at kids, as contracts. -/
structure Recs (B kb tb toff cap : Nat) (ts : List Node) (recS recB : Nat → LSt → LSt) (i : Nat) : Prop where
  gS : ∀ i s, Good s → Good (recS i s)
  gB : ∀ i s, Good s → Good (recB i s)
  lS : Lens ts recS
  lB : Lens ts recB
  at_ : ∀ j ∈ kidsOf ts i, j < ts.length ∧ SAt 115 B kb tb toff cap ts recS j ∧ SAt 79 B kb tb toff cap ts recB j
theorem Chain.cut {ts : List Node} : ∀ (l : List Nat) (p q off ln : Nat), Chain ts p q l → ∃ p' q', Chain ts p' q' ((l.drop off).take ln) ∧ (off ≤ l.length → p + off ≤ p')
  | [], p, q, off, ln, h => ⟨p, p, by simp [Chain], fun h => by simp at h; omega⟩
  | k :: r, p, q, 0, 0, h => ⟨p, p, by simp [Chain], by simp⟩
  | k :: r, p, q, 0, ln + 1, h => by
    obtain ⟨h1, h2, h3, h4⟩ := h
    cases ln with
    | zero => exact ⟨p, _, ⟨h1, h2, h3, rfl⟩, by simp⟩
    | succ ln =>
      cases r with
      | nil => exact ⟨p, _, ⟨h1, h2, h3, rfl⟩, by simp⟩
      | cons a r =>
        obtain ⟨p', q', h5, h6⟩ := Chain.cut (a :: r) _ _ 0 (ln + 1) h4
        refine ⟨p, q', ⟨h1, h2, h3, ?_⟩, by simp⟩
        rw [List.drop_zero] at h5
        have : p' = (behind ts p).toNat := by
          rw [List.take_succ_cons] at h5
          have h7 := h5.1
          have h8 := h4.1
          omega
        rw [← this]
        exact h5
  | k :: r, p, q, off + 1, ln, h => by
    obtain ⟨h1, h2, h3, h4⟩ := h
    obtain ⟨p', q', h5, h6⟩ := Chain.cut r _ _ off ln h4
    exact ⟨p', q', by simpa using h5, fun h => by have := h6 (by simpa using h); omega⟩
/-- looker.blocks on some of the kids. -/
theorem blocks_st {recS recB : Nat → LSt → LSt} {s : LSt} {gk : Nat} (h : StC B kb tb toff cap ts i x bk bn bq base n c (some ⟨gk, 0, none⟩) w0 s w) (R : Recs B kb tb toff cap ts recS recB i) (hbe : 0 ≤ behind ts i) (hnk : (kidsOf ts i).length = n) (hnl : n ≤ 100000) (off ln c2 : Nat) (l : List Nat)
    (hl : ((kidsOf ts i).drop off).take ln = l) (hln : l.length = ln) (hoff : off ≤ n) (hg : Good s) (hs : s.slots.length ≤ 2 + 3 * (i + 1 + off)) :
    Calls Try.prog 162 #[.pointer (some ⟨kb, 0, none⟩), .slice (some ⟨gk, off, none⟩) ln c2] w fun e w' => e = .returned (.tuple #[]) ∧
      LK w' B kb (.slice (some ⟨tb, toff, none⟩) ts.length cap) (blocksF ts recS recB 0 l s) ∧ Frm B [132, 40] w w' := by
  obtain ⟨p', q', hc, hp⟩ := Chain.cut _ _ _ off ln (kidsOf_chain hbe)
  rw [hl] at hc
  have := hp (by omega)
  subst hln
  have hown := h.own
  rw [← hnk] at hown
  refine blocks_any B kb tb toff cap ts recS recB h.tbB R.gS R.gB R.lS R.lB (kidsOf ts i) l gk c base off c2 p' q' s w ?_ ?_ hown ?_ hg hc (by omega) h.lk h.nodes
  · intro k hk
    have h1 : l[k]? = (((kidsOf ts i).drop off).take l.length)[k]? := by rw [hl]
    rw [h1, List.getElem?_take, if_pos hk, List.getElem?_drop]
  · have h2 : l.length ≤ ((kidsOf ts i).drop off).length := by
      have h3 := congrArg List.length hl
      rw [List.length_take] at h3
      omega
    rw [List.length_drop] at h2
    omega
  · intro j hj
    rw [← hl] at hj
    exact R.at_ j (List.mem_of_mem_drop (List.mem_of_mem_take hj))
theorem take_one {l : List Nat} {b : Nat} (h : l[1]? = some b) : (l.drop 1).take 1 = [b] := by
  match l, h with
  | [], h => simp at h
  | [_], h => simp at h
  | a :: c :: r, h => simp at h; simp [h]
/-- looker.expr at one kid, its answer by name. -/
theorem expr_st (htb : tb < B) (hl : ts.length ≤ 100000) (htxt : ∀ y ∈ ts, y.text.size ≤ 1099511627776) (hg : Good ⟨slots, seen, false⟩) (j : Nat) (hj : j < ts.length) (kd hgt : Int) (bd : Bool) (he : exprS ts ⟨slots, seen, false⟩ j false = (kd, hgt, bd))
    (h : LK w B kb (.slice (some ⟨tb, toff, none⟩) ts.length cap) ⟨slots, seen, false⟩) (hn : NodesAt w tb toff ts) :
    Calls Try.prog 157 #[.pointer (some ⟨kb, 0, none⟩), .int .i64 j] w fun e w' => e = .returned (.tuple #[.int .i8 kd, .int .i64 hgt]) ∧ LK w' B kb (.slice (some ⟨tb, toff, none⟩) ts.length cap) ⟨slots, seen, bd⟩ ∧ Frm B [132] w w' := by
  have he' : exprM ts slots seen ts.length j false = (kd, hgt, bd) := he
  have := expr_any B kb tb toff cap ts slots seen hl htb htxt (fun n h1 h2 _ => hg.key n h1 h2) ts.length j (by omega) hj (by omega) false w h hn
  rw [he'] at this
  exact this
end
end Go.Proofs.Ytggibiodeecljaa
