/- emit's maker.node at every place. emit's made. -/
import Derived.Test.YtggibiodeecljaaEmitN1
import Derived.Test.YtggibiodeecljaaEmitN2
import Derived.Test.YtggibiodeecljaaEmitN3
import Derived.Test.YtggibiodeecljaaEmitN4
import Derived.Test.YtggibiodeecljaaEmitN5
import Derived.Test.YtggibiodeecljaaEmit6a
import Derived.Test.YtggibiodeecljaaEmit6b
import Derived.Test.YtggibiodeecljaaMEmit6c
import Derived.Test.YtggibiodeecljaaEmit6e
import Derived.Test.YtggibiodeecljaaEmit6f
import Derived.Test.YtggibiodeecljaaEmit6g
import Derived.Test.YtggibiodeecljaaMEmitM
import Derived.Test.YtggibiodeecljaaMEmit9
namespace Go.Proofs.Ytggibiodeecljaa
open Go.RowKit
set_option linter.unusedVariables false

theorem len2 {l : List Nat} (h : l.length = 2) : ∃ a b, l = [a, b] := by
  match l, h with
  | [a, b], _ => exact ⟨a, b, rfl⟩
theorem len3 {l : List Nat} (h : l.length = 3) : ∃ a b c, l = [a, b, c] := by
  match l, h with
  | [a, b, c], _ => exact ⟨a, b, c, rfl⟩

theorem enode_any (w0 : World) (B kb tb toff cap : Nat) (im tm mb : Value) (ts : List Node) (pi : Int → Option Int) (pt : ByteArray → Option Int) (hl : ts.length ≤ 2000) (htb : tb < B) (hn0 : NodesAt w0 tb toff ts) (ht0 : TabAt w0 B mb)
    (hp : PoolI w0 B im pi) (hpb : ∀ n v, pi n = some v → 0 ≤ v ∧ v ≤ 10000000) (hpt : PoolT w0 B tm pt) (hptb : ∀ n v, pt n = some v → 0 ≤ v ∧ v ≤ 10000000) :
    ∀ (f i : Nat), ts.length ≤ i + f → i < ts.length → 0 ≤ behind ts i → FitE ts f i → NodeC w0 B kb (.slice (some ⟨tb, toff, none⟩) ts.length cap) im tm mb (emitM pi pt ts f) i
  | 0, i, h2, h3, _, _ => absurd h3 (by omega)
  | f + 1, i, h2, hi, hbe, hf => by
    obtain ⟨x, hx⟩ : ∃ x, ts[i]? = some x := ⟨_, List.getElem?_eq_getElem hi⟩
    have hgx : ts.getD i node0 = x := by rw [List.getD_eq_getElem?_getD, hx]; rfl
    have hr1 : ∀ j ∈ kidsOf ts i, FitE ts f j → NodeC w0 B kb (.slice (some ⟨tb, toff, none⟩) ts.length cap) im tm mb (emitM pi pt ts f) j := fun j hj hfj => by
      obtain ⟨g1, g2, g3, _⟩ := kidsOf_ok hj
      exact enode_any w0 B kb tb toff cap im tm mb ts pi pt hl htb hn0 ht0 hp hpb hpt hptb f j (by omega) g2 g3 hfj
    have hkr : ∀ j ∈ kidsOf ts i, j < ts.length := fun j hj => (kidsOf_ok hj).2.1
    have hgr := emitM_grow pi pt ts f
    obtain ⟨ha, n51, n52, hk⟩ := hf
    rw [hgx] at ha n51 n52 hk
    unfold argsE at hk
    have hkl : (kidsOf ts i).length ≤ 100000 := kidsOf_le hbe (by omega)
    intro s w hb h hm
    have hE : emitM pi pt ts (f + 1) i s = emitF pi pt ts (emitM pi pt ts f) i s := rfl
    rw [hE] at hm ⊢
    generalize hrec : emitM pi pt ts f = rec at *
    clear hrec hE
    obtain ⟨l, hll⟩ : ∃ l, l = kidsOf ts i := ⟨_, rfl⟩
    obtain ⟨tv, htv⟩ : ∃ tv, tv = Value.slice (some ⟨tb, toff, none⟩) ts.length cap := ⟨_, rfl⟩
    by_cases q50 : x.op = 50 ∧ (x.n = 1 ∨ x.n = 5)
    · rw [if_pos q50] at hk
      have h2l : (kidsOf ts i).length = 2 := by
        rcases q50 with ⟨q, q1 | q1⟩ <;> simp [arityB, q, q1, signOf, funcsM] at ha <;> exact ha
      obtain ⟨j0, j1, hkk⟩ := len2 h2l
      have hr0 := hr1 j0 (by rw [hkk]; simp) (hk j0 (by rw [hkk]; simp))
      obtain ⟨y, hy⟩ : ∃ y, ts[j1]? = some y := ⟨_, List.getElem?_eq_getElem (hkr j1 (by rw [hkk]; simp))⟩
      have hF : emitF pi pt ts rec i = fun s => callE pt ts rec x (kidsOf ts i) s := by
        funext s; unfold emitF; simp only [hgx]; simp [q50.1]
      rw [hF] at hm ⊢
      rcases q50 with ⟨q, q1 | q1⟩
      · exact emitNode_call w0 B kb tb toff cap im tm mb ts _ i x s w hl htb hn0 ht0 hi hbe hx (by rw [q]; rfl) (w_call1 w0 B kb _ im tm mb ts rec hgr i x hkl j0 j1 hkk hr0 pt q1 tb toff cap rfl htb hn0 y hy) hb h hm
      · exact emitNode_call w0 B kb tb toff cap im tm mb ts _ i x s w hl htb hn0 ht0 hi hbe hx (by rw [q]; rfl) (w_call5 w0 B kb _ im tm mb ts rec hgr i x hkl j0 j1 hkk hr0 pt hpt hptb q1 tb toff cap rfl htb hn0 y hy) hb h hm
    rw [if_neg q50] at hk
    have hr := fun j hj => hr1 j hj (hk j hj)
    unfold emitF at hm ⊢
    simp only [hgx] at hm ⊢
    by_cases q10 : x.op = 10
    · rw [if_pos q10] at hm ⊢
      exact emitNode_t1 w0 B kb tb toff cap im tm mb ts _ i x s w hl htb hn0 ht0 hi hbe hx (by rw [q10]; rfl) (w_t1 w0 B kb _ im tm mb ts rec hgr i x hr hkl) hb h hm
    rw [if_neg q10] at hm ⊢
    by_cases q30 : x.op = 30
    · rw [if_pos q30] at hm ⊢
      exact emitNode_t2 w0 B kb tb toff cap im tm mb ts (fun s => pushE (pi x.n) s) i x s w hl htb hn0 ht0 hi hbe hx (by rw [q30]; rfl) (w_t2 w0 B kb _ im tm mb ts i x pi hp hpb) hb h hm
    rw [if_neg q30] at hm ⊢
    by_cases q33 : x.op = 33
    · rw [if_pos q33] at hm ⊢
      exact emitNode_t3 w0 B kb tb toff cap im tm mb ts (fun s => opE 4 [u8 x.n] s) i x s w hl htb hn0 ht0 hi hbe hx (by rw [q33]; rfl) (w_t3 w0 B kb _ im tm mb ts i x) hb h hm
    rw [if_neg q33] at hm ⊢
    by_cases q36 : x.op = 36
    · rw [if_pos q36] at hm ⊢
      obtain ⟨j0, j1, hkk⟩ := len2 (l := kidsOf ts i) (by simpa [arityB, q36] using ha)
      exact emitNode_or w0 B kb tb toff cap im tm mb ts (fun s => orE rec (kidsOf ts i) s) i x s w hl htb hn0 ht0 hi hbe hx (by rw [q36]; rfl) (w_or w0 B kb _ im tm mb ts rec hgr i x hr hkl j0 j1 hkk) hb h hm
    rw [if_neg q36] at hm ⊢
    by_cases q37 : x.op = 37
    · rw [if_pos q37] at hm ⊢
      obtain ⟨j0, j1, hkk⟩ := len2 (l := kidsOf ts i) (by simpa [arityB, q37] using ha)
      exact emitNode_and w0 B kb tb toff cap im tm mb ts (fun s => andE rec (kidsOf ts i) s) i x s w hl htb hn0 ht0 hi hbe hx (by rw [q37]; rfl) (w_and w0 B kb _ im tm mb ts rec hgr i x hr hkl j0 j1 hkk) hb h hm
    rw [if_neg q37] at hm ⊢
    by_cases q38 : x.op = 38 ∨ x.op = 39
    · rw [if_pos q38] at hm ⊢
      obtain ⟨j0, j1, hkk⟩ := len2 (l := kidsOf ts i) (by rcases q38 with q | q <;> simpa [arityB, q] using ha)
      obtain ⟨y, hy⟩ : ∃ y, ts[j0]? = some y := ⟨_, List.getElem?_eq_getElem (hkr j0 (by rw [hkk]; simp))⟩
      rcases q38 with q | q
      · exact emitNode_equal w0 B kb tb toff cap im tm mb ts (fun s => equalE ts rec x (kidsOf ts i) s) i x s w hl htb hn0 ht0 hi hbe hx (by rw [q]; rfl) (w_equal38 w0 B kb _ im tm mb ts rec hgr i x hr hkl j0 j1 hkk q tb toff cap rfl htb hn0 y hy) hb h hm
      · exact emitNode_equal w0 B kb tb toff cap im tm mb ts (fun s => equalE ts rec x (kidsOf ts i) s) i x s w hl htb hn0 ht0 hi hbe hx (by rw [q]; rfl) (w_equal39 w0 B kb _ im tm mb ts rec hgr i x hr hkl j0 j1 hkk q tb toff cap rfl htb hn0 y hy) hb h hm
    rw [if_neg q38] at hm ⊢
    by_cases q5 : x.op = 50
    · rw [if_pos q5] at hm ⊢
      have hxn : x.n = 0 ∨ x.n = 2 ∨ x.n = 3 ∨ x.n = 4 ∨ x.n = 6 ∨ x.n = 7 ∨ x.n = 8 := by
        have hne : ¬ (x.n = 1 ∨ x.n = 5) := fun h => q50 ⟨q5, h⟩
        have hs : ∃ sg, signOf funcsM x.n = some sg := by
          cases hsg : signOf funcsM x.n with
          | none => simp [arityB, q5, hsg] at ha
          | some sg => exact ⟨sg, rfl⟩
        obtain ⟨sg, hsg⟩ := hs
        obtain ⟨g1, g2, _⟩ := signOf_mem hsg
        have : x.n.toNat < 9 := g2
        omega
      have K : staticF x.op = some 124 := by rw [q5]; rfl
      rcases hxn with q | q | q | q | q | q | q
      · exact emitNode_call w0 B kb tb toff cap im tm mb ts (fun s => callE pt ts rec x (kidsOf ts i) s) i x s w hl htb hn0 ht0 hi hbe hx K (w_call0 w0 B kb _ im tm mb ts rec hgr i x hr hkl pt q) hb h hm
      · exact emitNode_call w0 B kb tb toff cap im tm mb ts (fun s => callE pt ts rec x (kidsOf ts i) s) i x s w hl htb hn0 ht0 hi hbe hx K (w_call2 w0 B kb _ im tm mb ts rec hgr i x hr hkl pt q) hb h hm
      · exact emitNode_call w0 B kb tb toff cap im tm mb ts (fun s => callE pt ts rec x (kidsOf ts i) s) i x s w hl htb hn0 ht0 hi hbe hx K (w_call3 w0 B kb _ im tm mb ts rec hgr i x hr hkl pt q) hb h hm
      · exact emitNode_call w0 B kb tb toff cap im tm mb ts (fun s => callE pt ts rec x (kidsOf ts i) s) i x s w hl htb hn0 ht0 hi hbe hx K (w_call4 w0 B kb _ im tm mb ts rec hgr i x hr hkl pt q) hb h hm
      · exact emitNode_call w0 B kb tb toff cap im tm mb ts (fun s => callE pt ts rec x (kidsOf ts i) s) i x s w hl htb hn0 ht0 hi hbe hx K (w_call6 w0 B kb _ im tm mb ts rec hgr i x hr hkl pt q) hb h hm
      · exact emitNode_call w0 B kb tb toff cap im tm mb ts (fun s => callE pt ts rec x (kidsOf ts i) s) i x s w hl htb hn0 ht0 hi hbe hx K (w_call7 w0 B kb _ im tm mb ts rec hgr i x hr hkl pt q) hb h hm
      · exact emitNode_call w0 B kb tb toff cap im tm mb ts (fun s => callE pt ts rec x (kidsOf ts i) s) i x s w hl htb hn0 ht0 hi hbe hx K (w_call8 w0 B kb _ im tm mb ts rec hgr i x hr hkl pt q) hb h hm
    rw [if_neg q5] at hm ⊢
    by_cases q13 : x.op = 13 ∨ x.op = 16
    · rw [if_pos q13] at hm ⊢
      have h23 : (kidsOf ts i).length = 2 ∨ (kidsOf ts i).length = 3 := by rcases q13 with q | q <;> simpa [arityB, q] using ha
      rcases h23 with hn | hn
      · obtain ⟨j0, j1, hkk⟩ := len2 hn
        rcases q13 with q | q
        · exact emitNode_fork w0 B kb tb toff cap im tm mb ts (fun s => forkE rec x (kidsOf ts i) s) i x s w hl htb hn0 ht0 hi hbe hx (by rw [q]; rfl) (w_fork13a w0 B kb _ im tm mb ts rec hgr i x hr hkl j0 j1 hkk q) hb h hm
        · exact emitNode_fork w0 B kb tb toff cap im tm mb ts (fun s => forkE rec x (kidsOf ts i) s) i x s w hl htb hn0 ht0 hi hbe hx (by rw [q]; rfl) (w_fork16a w0 B kb _ im tm mb ts rec hgr i x hr hkl j0 j1 hkk q) hb h hm
      · obtain ⟨j0, j1, j2, hkk⟩ := len3 hn
        rcases q13 with q | q
        · exact emitNode_fork w0 B kb tb toff cap im tm mb ts (fun s => forkE rec x (kidsOf ts i) s) i x s w hl htb hn0 ht0 hi hbe hx (by rw [q]; rfl) (w_fork13b w0 B kb _ im tm mb ts rec hgr i x hr hkl j0 j1 j2 hkk q) hb h hm
        · exact emitNode_fork w0 B kb tb toff cap im tm mb ts (fun s => forkE rec x (kidsOf ts i) s) i x s w hl htb hn0 ht0 hi hbe hx (by rw [q]; rfl) (w_fork16b w0 B kb _ im tm mb ts rec hgr i x hr hkl j0 j1 j2 hkk q) hb h hm
    rw [if_neg q13] at hm ⊢
    by_cases q14 : x.op = 14
    · rw [if_pos q14] at hm ⊢
      exact emitNode_repeat w0 B kb tb toff cap im tm mb ts (fun s => repeatE pi rec x (kidsOf ts i) s) i x s w hl htb hn0 ht0 hi hbe hx (by rw [q14]; rfl) (w_repeat w0 B kb _ im tm mb ts rec hgr i x hr hkl pi hp hpb) hb h hm
    rw [if_neg q14] at hm ⊢
    by_cases q15 : x.op = 15
    · rw [if_pos q15] at hm ⊢
      obtain ⟨j0, j1, hkk⟩ := len2 (l := kidsOf ts i) (by simpa [arityB, q15] using ha)
      exact emitNode_each w0 B kb tb toff cap im tm mb ts (fun s => eachE pi rec x (kidsOf ts i) s) i x s w hl htb hn0 ht0 hi hbe hx (by rw [q15]; rfl) (w_each w0 B kb _ im tm mb ts rec hgr i x hr hkl j0 j1 hkk pi hp hpb) hb h hm
    rw [if_neg q15] at hm ⊢
    by_cases q49 : x.op = 49
    · rw [if_pos q49] at hm ⊢
      exact emitNode_t4 w0 B kb tb toff cap im tm mb ts (fun s => opE 46 [u8 x.n] (allE rec (kidsOf ts i) s)) i x s w hl htb hn0 ht0 hi hbe hx (by rw [q49]; rfl) (w_t4 w0 B kb _ im tm mb ts rec hgr i x hr hkl) hb h hm
    rw [if_neg q49] at hm ⊢
    by_cases q19 : x.op = 19
    · rw [if_pos q19] at hm ⊢
      exact emitNode_t5 w0 B kb tb toff cap im tm mb ts (fun s => opE 60 [u8 x.n] (allE rec (kidsOf ts i) s)) i x s w hl htb hn0 ht0 hi hbe hx (by rw [q19]; rfl) (w_t5 w0 B kb _ im tm mb ts rec hgr i x hr hkl) hb h hm
    rw [if_neg q19] at hm ⊢
    by_cases q11 : x.op = 11 ∨ x.op = 12
    · rw [if_pos q11] at hm ⊢
      exact emitNode_t7 w0 B kb tb toff cap im tm mb ts (fun s => opE 5 [u8 x.n] (allE rec (kidsOf ts i) s)) i x s w hl htb hn0 ht0 hi hbe hx (by rcases q11 with q | q <;> rw [q] <;> rfl) (w_t7 w0 B kb _ im tm mb ts rec hgr i x hr hkl) hb h hm
    rw [if_neg q11] at hm ⊢
    obtain ⟨pc, hpc⟩ : ∃ pc, plainCode x.op = some pc := plain_of (by omega) ha
    have e : plainE rec (plainCode x.op) (kidsOf ts i) s = opE pc [] (allE rec (kidsOf ts i) s) := by rw [hpc]; rfl
    rw [e] at hm ⊢
    exact emitNode_plain w0 B kb tb toff cap im tm mb ts (fun s => opE pc [] (allE rec (kidsOf ts i) s)) i x s w hl htb hn0 ht0 hi hbe hx pc hpc (fun pg hpg kp => w_plain w0 B kb _ im tm mb ts rec hgr i x hr hkl pg pc hpg kp) hb h hm
end Go.Proofs.Ytggibiodeecljaa
namespace Go.Proofs.Ytggibiodeecljaa
open Go.RowKit
set_option linter.unusedVariables false

theorem PoolI.up {w w' : World} {B B' : Nat} {im : Value} {pi : Int → Option Int} (h : PoolI w B im pi) (hb : Below B w w') (hB : B ≤ B') : PoolI w' B' im pi := by
  obtain ⟨ib, h1, h2, h3⟩ := h.below hb
  exact ⟨ib, h1, by omega, h3⟩
theorem PoolT.up {w w' : World} {B B' : Nat} {tm : Value} {pt : ByteArray → Option Int} (h : PoolT w B tm pt) (hb : Below B w w') (hB : B ≤ B') : PoolT w' B' tm pt := by
  obtain ⟨ib, h1, h2, h3⟩ := h.below hb
  exact ⟨ib, h1, by omega, h3⟩
theorem EK.start (w : World) (tv im tm mb : Value) : EK (w.alloc (.cells #[tv, im, tm, .slice none 0 0, .bool false, mb, .slice none 0 0] 140)) w.heap.size w.heap.size tv im tm mb ⟨[], false, []⟩ :=
  ⟨.slice none 0 0, .slice none 0 0, [], Nat.le_refl _, Blk.new w _ _, World.ownsRow_nil _ _ _ _, World.ownsRow_nil _ _ _ _, fun k p hk => by simp at hk⟩

theorem own_low {w : World} {B B' n size : Nat} {e : TypeId} {v : Value} {xs : List Value} (h : w.ownsRow B e size v n xs) (hb : B' ≤ B) : w.ownsRow B' e size v n xs := by
  refine ⟨h.1, ?_⟩
  rcases h.2 with h2 | ⟨g, cap, cur, h2, h3, h4⟩
  · exact .inl h2
  · exact .inr ⟨g, cap, cur, h2, by omega, h4⟩
theorem layE_len : ∀ (l : List (Nat × Nat)) (b : List Int), (layE l b).length = b.length
  | [], b => rfl
  | p :: l, b => by rw [layE_cons, layE_len l]; simp [layOne]
theorem layE_take {l : List (Nat × Nat)} {k : Nat} {p : Nat × Nat} (h : l[k]? = some p) (b : List Int) : layE (l.take (k + 1)) b = layOne p (layE (l.take k) b) := by
  rw [List.take_add_one, h]
  simp [layE, layOne]
theorem build_maker (tb toff n c ib mt mk : Nat) (w : World) : (Instr.build 140 #[(0, .slice (some ⟨tb, toff, none⟩) n c), (1, .map (some ib)), (2, .map (some mt)), (5, .map (some mk))]).run Try.prog w = .ok (.agg #[.slice (some ⟨tb, toff, none⟩) n c, .map (some ib), .map (some mt), .slice none 0 0, .bool false, .map (some mk), .slice none 0 0]) w :=
  run_build w _ _ _ (by kernel_rfl)
set_option maxRecDepth 100000 in
set_option maxHeartbeats 4000000 in
theorem made_no (on : Int) (SA : Option Addr) (sn sc tb toff tc : Nat) (ts : List Node) (im tm : Value) (pi : Int → Option Int) (pt : ByteArray → Option Int) (w : World) (hl : ts.length ≤ 2000) (hl0 : 0 < ts.length) (hn : NodesAt w tb toff ts) (htb : tb < w.heap.size)
    (hp : PoolI w w.heap.size im pi) (hpb : ∀ n v, pi n = some v → 0 ≤ v ∧ v ≤ 10000000) (hpt : PoolT w w.heap.size tm pt) (hptb : ∀ n v, pt n = some v → 0 ≤ v ∧ v ≤ 10000000) (hfit : FitE ts ts.length 0) (hbe : 0 ≤ behind ts 0) (hm : (madeM pi pt false ts).ms ≤ 1000000) :
    Calls Try.prog 38 #[.agg #[.int .i64 on, .slice SA sn sc, .bool false, .slice (some ⟨tb, toff, none⟩) ts.length tc], im, tm] w fun e w' => ∃ bv, e = .returned (.tuple #[bv, .bool (!(madeM pi pt false ts).bad)]) ∧ w'.ownsRow w.heap.size 5 1 bv (madeM pi pt false ts).b.length (u8Vals (layE (madeM pi pt false ts).later (madeM pi pt false ts).b)) ∧ Below w.heap.size w w' := by
  obtain ⟨ib, rfl⟩ : ∃ ib, im = .map (some ib) := by obtain ⟨ib, e, _⟩ := hp; exact ⟨ib, e⟩
  obtain ⟨mt, rfl⟩ : ∃ mt, tm = .map (some mt) := by obtain ⟨mt, e, _⟩ := hpt; exact ⟨mt, e⟩
  obtain ⟨s1, hs1⟩ : ∃ s1, s1 = emitM pi pt ts ts.length 0 ⟨[], false, []⟩ := ⟨_, rfl⟩
  obtain ⟨s2, hs2⟩ : ∃ s2, s2 = opE 34 [] s1 := ⟨_, rfl⟩
  have hM : madeM pi pt false ts = s2 := by rw [hs2, hs1]; rfl
  have hok : OKm s2 := hM ▸ madeM_ok pi pt false ts
  rw [hM] at hm ⊢
  have hm2 : s2.ms = s1.ms + 1 := by rw [hs2, opE_ms]; rfl
  have bm1 : s1.ms ≤ 1000000 := by omega
  have bm1' : (emitM pi pt ts ts.length 0 ⟨[], false, []⟩).ms ≤ 1000000 := hs1 ▸ bm1
  have HM1 := Lib.hid bm1'
  have HS1 := Lib.hid hs1
  have HS2 := Lib.hid hs2
  have HOK := Lib.hid hok
  clear hM hs1 hs2 hok bm1'
  obtain ⟨w1, hw1⟩ : ∃ w1, w1 = w.alloc (.cells #[.int .i64 on, .slice SA sn sc, .bool false, .slice (some ⟨tb, toff, none⟩) ts.length tc] 25) := ⟨_, rfl⟩
  have b1 : Below w.heap.size w w1 := by rw [hw1]; exact (Below.refl _ _).alloc (Nat.le_refl _) _
  have k1 : Blk w1 w.heap.size 25 #[.int .i64 on, .slice SA sn sc, .bool false, .slice (some ⟨tb, toff, none⟩) ts.length tc] := by rw [hw1]; exact Blk.new w _ _
  have ht := table_any w1
  have ht2 := table_any w1.drew
  have HW1 := Lib.hid hw1
  have HT := Lib.hid ht
  have HT2 := Lib.hid ht2
  have K1 := Lib.hid k1
  have B1 := Lib.hid b1
  have HN := Lib.hid hn
  have HP := Lib.hid hp
  have HPB := Lib.hid hpb
  have HPT := Lib.hid hpt
  have HPTB := Lib.hid hptb
  have HFIT := Lib.hid hfit
  have hbm := build_maker
  clear hw1 ht ht2 k1 b1 hn hp hpb hpt hptb hfit
  go_enter Try.func38, Try.ntmps38
  go_wp2_with fail
  rw [← HW1.out]
  have sA : w1.drew.cell? ⟨w.heap.size, 3, none⟩ = some (.slice (some ⟨tb, toff, none⟩) ts.length tc) := K1.out.cell 3
  go_region_held3 (fun w' => w'.cell? ⟨w.heap.size, 3, none⟩ = some (.slice (some ⟨tb, toff, none⟩) ts.length tc)) (first | exact sA | exact sB | exact sC)
    ((first | (go_at_call 81; refine HT2.out.mono ?_; rintro e w2 ⟨mb, rfl, htab, hbt⟩; obtain ⟨mk, rfl⟩ : ∃ mk, mb = .map (some mk) := (by obtain ⟨mk, _, e, _⟩ := htab; exact ⟨mk, e⟩); have k2 := K1.out.drew.below hbt K1.out.lt; have sB : w2.cell? ⟨w.heap.size, 3, none⟩ = some (.slice (some ⟨tb, toff, none⟩) ts.length tc) := k2.cell 3; have sC : (w2.alloc (.cells #[.slice (some ⟨tb, toff, none⟩) ts.length tc, .map (some ib), .map (some mt), .slice none 0 0, .bool false, .map (some mk), .slice none 0 0] 140)).cell? ⟨w.heap.size, 3, none⟩ = some (.slice (some ⟨tb, toff, none⟩) ts.length tc) := (k2.alloc _).cell 3)))
  have hb2 : Below w.heap.size w w2 := B1.out.drew.trans (hbt.mono B1.out.drew.size)
  have hz2 := hb2.size
  have hlt2 := K1.out.lt
  have hz12 := hbt.size
  have hnode := enode_any w2 w2.heap.size w2.heap.size tb toff tc (.map (some ib)) (.map (some mt)) (.map (some mk)) ts pi pt hl (by omega) (HN.out.below hb2 htb) htab (HP.out.up hb2 hz2) HPB.out (HPT.out.up hb2 hz2) HPTB.out ts.length 0 (by omega) hl0 hbe HFIT.out
  obtain ⟨w3, hw3⟩ : ∃ w3, w3 = w2.alloc (.cells #[.slice (some ⟨tb, toff, none⟩) ts.length tc, .map (some ib), .map (some mt), .slice none 0 0, .bool false, .map (some mk), .slice none 0 0] 140) := ⟨_, rfl⟩
  have ek := EK.start w2 (.slice (some ⟨tb, toff, none⟩) ts.length tc) (.map (some ib)) (.map (some mt)) (.map (some mk))
  have k3 := k2.alloc (.cells #[.slice (some ⟨tb, toff, none⟩) ts.length tc, .map (some ib), .map (some mt), .slice none 0 0, .bool false, .map (some mk), .slice none 0 0] 140)
  have hb23 : Below w2.heap.size w2 w3 := by rw [hw3]; exact (Below.refl _ _).alloc (Nat.le_refl _) _
  rw [← hw3] at ek k3 ⊢
  have c2 : w3.cell? ⟨w.heap.size, 2, none⟩ = some (.bool false) := k3.cell 2
  have HNODE := Lib.hid hnode
  have EK3 := Lib.hid ek
  have HB23 := Lib.hid hb23
  have HB2 := Lib.hid hb2
  clear hnode ek hb23 hb2 hw3 k2 k3 htab hbt sA sB sC
  go_wp2_with fail
  refine (HNODE.out ⟨[], false, []⟩ w3 HB23.out EK3.out HM1.out).mono ?_
  rintro e w4 ⟨rfl, h4, f4⟩
  rw [← HS1.out] at h4
  have EK4 := Lib.hid h4
  have FR4 := Lib.hid f4
  clear h4 f4
  go_wp2_with fail
  refine (emitOp_nil w2.heap.size w2.heap.size _ _ _ _ s1 34 w4 EK4.out bm1).mono ?_
  rintro e w5 ⟨rfl, h5, f5⟩
  rw [← HS2.out] at h5
  have EK5 := Lib.hid h5
  have FR5 := Lib.hid (FR4.out.trans f5)
  obtain ⟨bv, lv, vals, hB5, mk5, ob5, ol5, wt5⟩ := h5
  obtain ⟨nl, hnl⟩ : ∃ nl, s2.later.length = nl := ⟨_, rfl⟩
  have hnlb : nl ≤ 1000000 := by have := hm; unfold MS.ms at this; omega
  rw [hnl] at ol5
  obtain ⟨Al, cl, rfl⟩ := own_form ol5
  have c6 : w5.cell? ⟨w2.heap.size, 6, none⟩ = some (.slice Al nl cl) := mk5.cell 6
  have OL5 := Lib.hid ol5
  have WT5 := Lib.hid wt5
  have HNL := Lib.hid hnl
  clear f5 mk5 ob5 ol5 wt5 hnl
  go_wp2_with fail
  go_loopw [11, 41] (fun _ iv wr => ∃ (k : Nat), k ≤ nl ∧ iv = .int .i64 k ∧ EK wr w2.heap.size w2.heap.size (.slice (some ⟨tb, toff, none⟩) ts.length tc) (.map (some ib)) (.map (some mt)) (.map (some mk)) { s2 with b := layE (s2.later.take k) s2.b } ∧ wr.ownsRow w2.heap.size 1 1 (.slice Al nl cl) nl vals ∧ Frm w2.heap.size [5] w5 wr) (fun _ iv _ => nl - (intOf iv).toNat)
  case atStart => exact ⟨0, by omega, rfl, EK5.out, OL5.out, Frm.refl _ _ _⟩
  case round =>
    obtain ⟨k, hkn, rfl, hek, hol, hfr⟩ := hrel
    by_cases hlt : k < nl
    · obtain ⟨⟨pp, qq⟩, hpq⟩ : ∃ p, s2.later[k]? = some p := ⟨_, List.getElem?_eq_getElem (by rw [HNL.out]; exact hlt)⟩
      obtain ⟨v, hv, hw⟩ := WT5.out k _ hpq
      obtain ⟨g1, g2, g3, rfl, kk1, kk2, kk3⟩ := hw.frm (hfr.more (by simp))
      obtain ⟨gl, rfl⟩ : ∃ gl, Al = some ⟨gl, 0, none⟩ := by
        obtain ⟨g, cap, e, _⟩ := hol.form (by omega)
        injection e with e
        exact ⟨g, e⟩
      have hc : wr.cell? ⟨gl, k, none⟩ = some (.func (.func 134) #[] #[.pointer (some ⟨g1, 0, none⟩), .pointer (some ⟨g2, 0, none⟩), .pointer (some ⟨g3, 0, none⟩)]) := by rw [hol.cellAt k (by omega), hv]
      have hkI : (k : Int) < nl := by omega
      have hin := HOK.out (pp, qq) (List.mem_of_getElem? hpq)
      have hsl : (layE (s2.later.take k) s2.b).length = s2.b.length := layE_len _ _
      have hsm : ({ s2 with b := layE (s2.later.take k) s2.b } : MS).ms ≤ 1000000 := by unfold MS.ms at hm ⊢; simp only [hsl]; exact hm
      have hlay := emitLay_any _ _ _ _ _ _ _ pp qq g1 g2 g3 wr hek kk1 kk2 kk3 (by simp only [hsl]; exact hin.1) hsm (by unfold MS.ms at hm; have := hin.2; simp only at this; omega)
      have hst := layE_take hpq s2.b
      have HLAY := Lib.hid hlay
      have HOL := Lib.hid hol
      have HFR := Lib.hid hfr
      have HST := Lib.hid hst
      clear hpq hv hw kk1 kk2 kk3 hin hsl hsm hlay hst hek hol hfr
      go_wp2_with fail
      refine HLAY.out.mono ?_
      rintro e w6 ⟨rfl, h6, f6⟩
      have h7 : EK w6 w2.heap.size w2.heap.size (.slice (some ⟨tb, toff, none⟩) ts.length tc) (.map (some ib)) (.map (some mt)) (.map (some mk)) { s2 with b := layE (s2.later.take (k + 1)) s2.b } := by rw [HST.out]; exact h6
      have EK6 := Lib.hid h7
      have OL6 := Lib.hid (f6.own HOL.out (by decide))
      have FR6 := Lib.hid (HFR.out.trans f6)
      clear h6 h7 f6
      go_wp2_with fail
      go_roundw
      case rel => exact ⟨k + 1, by omega, by go_num, EK6.out, OL6.out, FR6.out⟩
      case measure => (simp [intOf]; try omega)
    · have hkk : k = nl := by omega
      have htk : s2.later.take k = s2.later := List.take_of_length_le (by rw [HNL.out]; omega)
      rw [htk] at hek
      have hlen : (layE s2.later s2.b).length = s2.b.length := layE_len _ _
      obtain ⟨bv, lv, vv, hB, mkk, ob, _, _⟩ := hek
      simp only [hlen] at ob mkk
      obtain ⟨Ab, cb, rfl⟩ := own_form ob
      have c3 : wr.cell? ⟨w2.heap.size, 3, none⟩ = some (.slice Ab s2.b.length cb) := mkk.cell 3
      have c4 : wr.cell? ⟨w2.heap.size, 4, none⟩ = some (.bool s2.bad) := mkk.cell 4
      have hbe2 : Below w.heap.size w wr := ((HB2.out.trans (HB23.out.mono hz2)).trans (FR5.out.below.mono hz2)).trans (hfr.below.mono hz2)
      have OB := Lib.hid (own_low ob hz2)
      have HBE2 := Lib.hid hbe2
      clear htk hlen hB mkk ob hbe2 hol hfr
      go_wp2_with fail
      have d3 : wr.drew.cell? ⟨w2.heap.size, 3, none⟩ = some (.slice Ab s2.b.length cb) := c3
      have d4 : wr.drew.cell? ⟨w2.heap.size, 4, none⟩ = some (.bool s2.bad) := c4
      go_region_held3 (fun w' => w'.cell? ⟨w2.heap.size, 3, none⟩ = some (.slice Ab s2.b.length cb) ∧ w'.cell? ⟨w2.heap.size, 4, none⟩ = some (.bool s2.bad)) (first | exact ⟨d3, d4⟩) ((first | fail))
      go_wp2_with fail
      go_ret2
      exact ⟨_, rfl, OB.out.drew, HBE2.out.drew⟩
end Go.Proofs.Ytggibiodeecljaa
