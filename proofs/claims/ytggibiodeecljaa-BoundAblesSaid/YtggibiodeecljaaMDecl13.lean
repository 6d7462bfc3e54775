/- The reference's looker against the model's state: what is seen, what is declared, what is forgotten. The reference's looker: value, declare. -/
import Derived.Test.YtggibiodeecljaaMExprH13
import Derived.Test.YtggibiodeecljaaMBase
import Derived.Maps.AppendAt
namespace Go.Proofs.Ytggibiodeecljaa
open Go.RowKit
set_option linter.unusedVariables false
theorem findV_some {n : Int} {u : Vr} : ∀ {l : List Vr}, findV l n = some u → u ∈ l ∧ u.slot = n
 | [], h => by cases h
 | v :: r, h => by
  rw [findV] at h
  split at h
  ·rename_i he
   injection h with h
   subst h
   exact ⟨by simp, he⟩
  ·have := findV_some h
   exact ⟨List.mem_cons_of_mem _ this.1, this.2⟩
theorem findV_none {n : Int} : ∀ {l : List Vr}, findV l n = none ↔ ∀ v ∈ l, v.slot ≠ n
 | [] => by simp [findV]
 | v :: r => by
  rw [findV]
  split
  ·rename_i he
   simp [he]
  ·rename_i he
   rw [findV_none]
   simp [he]
theorem findV_append (n : Int) : ∀ (l m : List Vr), findV (l ++ m) n = (findV l n).or (findV m n)
 | [], m => by simp [findV]
 | v :: r, m => by
  rw [List.cons_append, findV, findV, findV_append n r m]
  split <;> simp
structure Inv13 (slots : List Int) (vars : List Vr) (seen : Int → Option Value) : Prop where
 rel : SeenRel slots vars seen
 lt : ∀ v ∈ vars, 0 ≤ v.slot ∧ v.slot < slots.length
 len : vars.length ≤ slots.length
theorem Inv13.declare {slots : List Int} {vars : List Vr} {seen : Int → Option Value} (h : Inv13 slots vars seen) (hl : slots.length < 1048576) {l : List Int} (hne : l ≠ []) (b : Bool) :
  Inv13 (slots ++ l) (vars ++ [⟨(slots.length : Int), l.headD 0, b⟩]) (upd keyI seen (slots.length : Int) (some (.bool b))) := by
 have hp : 0 < l.length := List.length_pos_iff.2 hne
 refine ⟨?_, ?_, ?_⟩
 ·intro n
  rw [findV_append]
  simp only [upd_int]
  rcases h.rel n with ⟨h1, h2⟩ | ⟨v, h1, h2, h3, h4, h5⟩
  ·rw [h1, Option.none_or]
   by_cases hn : n = slots.length
   ·right
    refine ⟨⟨(slots.length : Int), l.headD 0, b⟩, by rw [findV, if_pos hn.symm], by omega, by omega, by rw [if_pos hn], ?_⟩
    subst hn
    cases l with
    | nil => exact absurd rfl hne
    | cons a r => simp
   ·left
    refine ⟨by rw [findV, if_neg (fun h => hn h.symm)]; rfl, ?_⟩
    rw [if_neg hn]
    exact h2
  ·right
   obtain ⟨m1, m2⟩ := findV_some h1
   have hlt := h.lt v m1
   refine ⟨v, by rw [h1]; rfl, h2, h3, by rw [if_neg (by omega)]; exact h4, ?_⟩
   rw [h5, List.getD_eq_getElem?_getD, List.getD_eq_getElem?_getD, List.getElem?_append_left (by omega)]
 ·intro v hv
  rw [List.mem_append] at hv
  rw [List.length_append]
  rcases hv with hv | hv
  ·have := h.lt v hv; omega
  ·simp only [List.mem_singleton] at hv
   subst hv
   simp only
   omega
 ·have := h.len
  rw [List.length_append, List.length_append]
  simp; omega
def forgetL (own : List Int) (s : LSt) : LSt := ⟨s.slots, fun n => if n ∈ own then none else s.seen n, s.bad⟩
theorem forgetL_eq : ∀ (own : List Int) (s : LSt), own.foldl (fun s n => forget n s) s = forgetL own s
 | [], s => by simp [forgetL]
 | n :: o, s => by
  rw [List.foldl_cons, forgetL_eq o]
  unfold forgetL forget
  congr 1
  funext m
  simp only [upd_int, List.mem_cons]
  by_cases h1 : m ∈ o
  ·simp [h1]
  ·by_cases h2 : m = n
   ·simp [h2]
   ·simp [h1, h2]
theorem forget_eq (n : Int) (s : LSt) : forget n s = forgetL [n] s := forgetL_eq [n] s
theorem Inv13.forget {slots : List Int} {vars ext : List Vr} {seen : Int → Option Value} (h : Inv13 slots (vars ++ ext) seen) {k : Nat} (hv : ∀ v ∈ vars, v.slot < k) (he : ∀ v ∈ ext, (k : Int) ≤ v.slot) :
  Inv13 slots vars (forgetL (ext.map Vr.slot) ⟨slots, seen, false⟩).seen := by
 refine ⟨?_, fun v hv' => h.lt v (List.mem_append_left _ hv'), by have := h.len; rw [List.length_append] at this; omega⟩
 intro n
 simp only [forgetL]
 have hr := h.rel n
 rw [findV_append] at hr
 by_cases hn : n ∈ ext.map Vr.slot
 ·rw [if_pos hn]
  left
  refine ⟨?_, by simp⟩
  rw [findV_none]
  intro v hv' e
  obtain ⟨u, hu, rfl⟩ := List.mem_map.1 hn
  have := hv v hv'
  have := he u hu
  omega
 ·rw [if_neg hn]
  have hne : findV ext n = none := findV_none.2 (fun v hv' e => hn (List.mem_map.2 ⟨v, hv', e⟩))
  rw [hne, Option.or_none] at hr
  exact hr
/-- The reference's looker with these variables is the model's state. -/
def RL (w : World) (B kb : Nat) (tv : Value) (vars : List Vr) (s : LSt) : Prop := ∃ slots, RK w B kb tv ⟨slots, vars, s.bad⟩ ∧ (s.bad = false → slots = s.slots ∧ Inv13 s.slots vars s.seen)
theorem RL.good {w : World} {B kb : Nat} {tv : Value} {vars : List Vr} {slots : List Int} {seen : Int → Option Value} (h : RL w B kb tv vars ⟨slots, seen, false⟩) : RK w B kb tv ⟨slots, vars, false⟩ ∧ Inv13 slots vars seen := by
 obtain ⟨sl, h1, h2⟩ := h
 obtain ⟨rfl, h3⟩ := h2 rfl
 exact ⟨h1, h3⟩
theorem RL.of {w : World} {B kb : Nat} {tv : Value} {vars : List Vr} {slots : List Int} {seen : Int → Option Value} {b : Bool} (h : RK w B kb tv ⟨slots, vars, b⟩) (hi : Inv13 slots vars seen) : RL w B kb tv vars ⟨slots, seen, b⟩ := ⟨slots, h, fun _ => ⟨rfl, hi⟩⟩
theorem RL.isBad {w : World} {B kb : Nat} {tv : Value} {vars : List Vr} {sl : List Int} {s : LSt} (h : RK w B kb tv ⟨sl, vars, true⟩) (hb : s.bad = true) : RL w B kb tv vars s := ⟨sl, by rw [hb]; exact h, fun h => by rw [hb] at h; cases h⟩
theorem RL.alloc {w : World} {B kb : Nat} {tv : Value} {vars : List Vr} {s : LSt} (h : RL w B kb tv vars s) (o : Obj) : RL (w.alloc o) B kb tv vars s := by
 obtain ⟨sl, h1, h2⟩ := h
 exact ⟨sl, h1.alloc o, h2⟩
theorem RL.size {w : World} {B kb : Nat} {tv : Value} {vars : List Vr} {s : LSt} (h : RL w B kb tv vars s) : B ≤ kb ∧ kb < w.heap.size := by
 obtain ⟨sl, h1, h2⟩ := h
 exact h1.size
theorem RL.cells {w : World} {B kb : Nat} {tv : Value} {vars : List Vr} {s : LSt} (h : RL w B kb tv vars s) : w.cell? ⟨kb, 0, none⟩ = some tv ∧ w.cell? ⟨kb, 3, none⟩ = some (.bool s.bad) ∧ w.frozen? ⟨kb, 3, none⟩ = false := by
 obtain ⟨sl, h1, h2⟩ := h
 exact h1.cells
theorem RL.below {w w' : World} {B kb : Nat} {tv : Value} {vars : List Vr} {s : LSt} (h : RL w B kb tv vars s) (hb : Below w.heap.size w w') : RL w' B kb tv vars s := by
 obtain ⟨sl, h1, h2⟩ := h
 exact ⟨sl, h1.below hb, h2⟩
theorem ownsRow_take {w : World} {B size n c : Nat} {e : TypeId} {A : Option Addr} {xs : List Value} (h : w.ownsRow B e size (.slice A n c) n xs) {k : Nat} (hk : k ≤ n) : w.ownsRow B e size (.slice A k c) k (xs.take (k * size)) := by
 obtain ⟨h1, h2⟩ := h
 have hm : k * size ≤ n * size := Nat.mul_le_mul_right _ hk
 refine ⟨by rw [List.length_take, h1]; omega, ?_⟩
 rcases h2 with ⟨h2, h3⟩ | ⟨g, cap, cur, h2, h3, h4, h5, h6, h7, h8⟩
 ·injection h2 with e1 e2 e3
  subst e1 e3 h3
  have : k = 0 := by omega
  subst this
  exact .inl ⟨rfl, rfl⟩
 ·injection h2 with e1 e2 e3
  subst e1 e3
  exact .inr ⟨g, c, cur, rfl, h3, h4, by omega, h6, h7, by rw [← h8, List.take_take, Nat.min_eq_left hm]⟩
theorem own_cap {w : World} {B size n c : Nat} {e : TypeId} {A : Option Addr} {xs : List Value} (h : w.ownsRow B e size (.slice A n c) n xs) : n ≤ c ∧ c ≤ maxLen := by
 rcases h.2 with ⟨h2, h3⟩ | ⟨g, cap, cur, h2, h3, h4, h5, h6, h7, h8⟩
 ·injection h2 with e1 e2 e3
  subst e3 h3
  exact ⟨Nat.le_refl _, by decide⟩
 ·injection h2 with e1 e2 e3
  subst e1 e3
  exact ⟨h5, h6⟩
/-- k.Seen = k.Seen[:n]. -/
theorem RK.trunc {w : World} {B kb : Nat} {tv : Value} {slots : List Int} {vars ext : List Vr} {bad : Bool} (h : RK w B kb tv ⟨slots, vars ++ ext, bad⟩) {A : Option Addr} {n c : Nat} (hv : w.cell? ⟨kb, 2, none⟩ = some (.slice A n c)) :
  RK (w.setCell ⟨kb, 2, none⟩ (.slice A vars.length c)) B kb tv ⟨slots, vars, bad⟩ ∧ Frm B [150] w (w.setCell ⟨kb, 2, none⟩ (.slice A vars.length c)) := by
 obtain ⟨sv, vv, h1, h3, h4, h5⟩ := h
 have e : vv = .slice A n c := by
  have := (h3.cell 2).symm.trans hv
  simpa using this
 subst e
 have hn : n = (vars ++ ext).length := by
  obtain ⟨A', c', e⟩ := own_form h5
  injection e
 subst hn
 have ht := ownsRow_take h5 (k := vars.length) (by rw [List.length_append]; omega)
 have e2 : (varVals (vars ++ ext)).take (vars.length * 4) = varVals vars := by
  rw [show varVals (vars ++ ext) = varVals vars ++ varVals ext by simp [varVals], ← varVals_len]
  simp
 simp only at ht h5
 rw [e2] at ht
 exact ⟨⟨sv, _, h1, h3.set_ 2 _, own_setCell h4 (own_blk_ne h4 h3 (by decide)) _, own_setCell ht (own_blk_ne ht h3 (by decide)) _⟩, (Frm.refl _ _ _).set_ h3 h1 (by simp) _⟩
theorem RK.vars {w : World} {B kb : Nat} {tv : Value} {s : RS} (h : RK w B kb tv s) : ∃ A c, w.cell? ⟨kb, 2, none⟩ = some (.slice A s.vars.length c) ∧ w.frozen? ⟨kb, 2, none⟩ = false ∧ s.vars.length ≤ c ∧ c ≤ maxLen := by
 obtain ⟨sv, vv, h1, h3, h4, h5⟩ := h
 obtain ⟨A, c, rfl⟩ := own_form h5
 exact ⟨A, c, h3.cell 2, h3.frozen 2, own_cap h5⟩
end Go.Proofs.Ytggibiodeecljaa
namespace Go.Proofs.Ytggibiodeecljaa
open Go.RowKit
set_option linter.unusedVariables false
theorem info_var : (Try.prog.info? 152).map (fun i => (i.zero, i.size, i.bytes)) = some (some (.agg #[.string ByteArray.empty, .int .i64 0, .int .i8 0, .bool false]), 4, 32) := by kernel_rfl
theorem var_el : ElT Try.prog 148 152 4 32 := ⟨Try.underlying148, by decide, by
 obtain ⟨i0, hi, hz0, hz1, hz2⟩ := info_parts info_var
 exact ⟨i0, _, hi, hz0, hz1, hz2, rfl⟩⟩
/-- Of two rows of one's own whose elements are of different types, one stays where the other grows. -/
theorem own_other {w w' : World} {B B' s1 s2 n1 n2 : Nat} {e1 e2 : TypeId} {v1 v2 : Value} {x1 x2 : List Value} (h1 : w.ownsRow B e1 s1 v1 n1 x1) (h2 : w.ownsRow B' e2 s2 v2 n2 x2) (hne : e2 ≠ e1) (hg : w.grownBy w' v2.ownBlock) : w'.ownsRow B e1 s1 v1 n1 x1 := by
 refine h1.kept hg ?_
 rcases h1.2 with ⟨rfl, _⟩ | ⟨g', cp, cu, rfl, _, hh, _⟩
 ·exact .inl rfl
 ·right
  intro e
  exact own_blk_ne h2 (g := g') (t := e1) (cs := cu) hh hne e.symm
/-- The variable that a declaration adds. -/
def extF (slot : Int) (b : Bool) (l : List Int) (s : LSt) : List Vr := if s.bad = false ∧ slot = s.slots.length then [⟨(s.slots.length : Int), l.headD 0, b⟩] else []
theorem low13_rl (B kb : Nat) (tv : Value) (vars : List Vr) (s : LSt) (hh : Int) (w : World) (h : RL w B kb tv vars s) :
  Calls Try.prog 135 #[.pointer (some ⟨kb, 0, none⟩), .int .i64 hh] w fun e w' => e = .returned (.tuple #[]) ∧ RL w' B kb tv vars { s with bad := s.bad || !(decide (hh ≤ 256)) } ∧ Frm B [150] w w' := by
 obtain ⟨sl, h1, h2⟩ := h
 refine (low13_any B kb tv ⟨sl, vars, s.bad⟩ hh w h1).mono ?_
 rintro e w1 ⟨rfl, g1, f1⟩
 refine ⟨rfl, ⟨sl, g1, fun h => h2 ?_⟩, f1⟩
 cases hb : s.bad with
 | true => rw [hb] at h; cases h
 | false => rfl
section
variable (B kb tb toff cap : Nat) (ts : List Node) (hlt : ts.length ≤ 100000) (htb : tb < B) (htxt : ∀ y ∈ ts, y.text.size ≤ 1099511627776)
include hlt htb htxt in
theorem expr13_rl (i : Nat) (slots : List Int) (vars : List Vr) (seen : Int → Option Value) (w : World) (hi : i < ts.length) (hbe : 0 ≤ behind ts i) (hsl : slots.length ≤ 100000)
  (h : RL w B kb (.slice (some ⟨tb, toff, none⟩) ts.length cap) vars ⟨slots, seen, false⟩) (hn : NodesAt w tb toff ts) :
  Calls Try.prog 167 #[.pointer (some ⟨kb, 0, none⟩), .int .i64 i] w fun e w' => Post13 B kb (.slice (some ⟨tb, toff, none⟩) ts.length cap) slots vars w (exprS ts ⟨slots, seen, false⟩ i false) (3 * ts.length) e w' := by
 obtain ⟨h1, h2⟩ := h.good
 have hl := h2.len
 exact expr13_any B kb tb toff cap ts slots vars seen hlt htb htxt (by omega) h2.rel ts.length i hlt (by omega) hi hbe false w h1 hn
include hlt htb htxt in
theorem value13_any (i : Nat) (kind : Int) (slots : List Int) (vars : List Vr) (seen : Int → Option Value) (w : World) (hi : i < ts.length) (hbe : 0 ≤ behind ts i) (hsl : slots.length ≤ 100000)
  (h : RL w B kb (.slice (some ⟨tb, toff, none⟩) ts.length cap) vars ⟨slots, seen, false⟩) (hn : NodesAt w tb toff ts) :
  Calls Try.prog 88 #[.pointer (some ⟨kb, 0, none⟩), .int .i64 i, .int .i8 kind] w fun e w' => e = .returned (.tuple #[]) ∧
   RL w' B kb (.slice (some ⟨tb, toff, none⟩) ts.length cap) vars (valueF ts i kind ⟨slots, seen, false⟩) ∧ Frm B [150] w w' := by
 obtain ⟨h1, h2⟩ := h.good
 have hl := h2.len
 have he := expr13_any B kb tb toff cap ts slots vars seen hlt htb htxt (by omega) h2.rel ts.length i hlt (by omega) hi hbe
 have hw := wanted13_any B kb tb toff cap ts slots vars _ _ i kind false w he h1 hn
 have hlo := fun (s : RS) (hh : Int) wx hx => low13_any B kb (.slice (some ⟨tb, toff, none⟩) ts.length cap) s hh wx hx
 have HW := Lh hw
 have HLO := Lh hlo
 have HI := Lh h2
 clear he hw hlo h h1 h2 hn
 go_enter Try.func88, Try.ntmps88
 go_wp2_with fail
 refine HW.out.mono ?_
 rintro e w1 ⟨hh, rfl, h0, hH, hr, f1, hg⟩
 have HR := Lh hr
 have HG := Lh hg
 have F1 := Lh f1
 clear hr hg f1
 go_wp2_with fail
 refine (HLO.out _ hh _ HR.out).mono ?_
 rintro e w2 ⟨rfl, h3, f3⟩
 have H3 := Lh h3
 have F3 := Lh f3
 clear h3 f3
 go_wp2_with fail
 go_end0
 have hv : valueF ts i kind ⟨slots, seen, false⟩ = ⟨slots, seen, (wantedF (exprM ts slots seen ts.length i false) kind).2 || !(decide ((wantedF (exprM ts slots seen ts.length i false) kind).1 ≤ 256))⟩ := rfl
 refine ⟨rfl, ?_, F1.out.trans F3.out⟩
 rw [hv]
 refine RL.of (H3.out.same ?_) HI.out
 simp only [RS.must]
 cases hb : (wantedF (exprM ts slots seen ts.length i false) kind).2 with
 | true => simp
 | false => rw [HG.out hb]
omit hlt htb htxt in
set_option maxRecDepth 100000 in
set_option maxHeartbeats 1600000 in
theorem declare13_any (slot : Int) (b : Bool) (l : List Int) (lb c : Nat) (s : LSt) (vars : List Vr) (tv : Value) (w : World) (hs : s.slots.length ≤ 100000) (hll : l.length ≤ 3) (hne : l ≠ []) (h : RL w B kb tv vars s) (hlb : Blk w lb 40 (l.map (Value.int .i8)).toArray) (hc : l.length ≤ c) :
  Calls Try.prog 168 #[.pointer (some ⟨kb, 0, none⟩), .int .i64 slot, .slice (some ⟨lb, 0, none⟩) l.length c, .bool b] w fun e w' => e = .returned (.tuple #[]) ∧
   RL w' B kb tv (vars ++ extF slot b l s) (declareF slot b l s) ∧ Frm B [150, 40, 152] w w' := by
 obtain ⟨slots, hrk, hgood⟩ := h
 obtain ⟨sl0, seen, bad⟩ := s
 simp only at hrk hgood hs
 obtain ⟨hB, hks⟩ := hrk.size
 have hmu := fun (s : RS) x wx hx => must13_any B kb tv s x wx hx
 have hrk0 := hrk
 obtain ⟨sv, vv, h1, h3, h4, h5⟩ := hrk
 obtain ⟨n, hn⟩ : ∃ n, slots.length = n := ⟨_, rfl⟩
 simp only at h4
 rw [hn] at h4
 obtain ⟨A, c1, rfl⟩ := own_form h4
 have k1 := h3.cell 1
 obtain ⟨q, hq⟩ : ∃ q : Bool, (slot == (n : Int)) = q := ⟨_, rfl⟩
 have HH := Lh hrk0
 have HGD := Lh hgood
 have HMU := Lh hmu
 have HN := Lh hn
 have HL := Lh hlb
 clear hrk0 hgood hmu hn hlb h3 h4 h5
 go_enter Try.func168, Try.ntmps168
 go_wp2_with fail
 refine (HMU.out _ q _ HH.out).mono ?_
 rintro e w1 ⟨rfl, g1, f1⟩
 have HQ := Lh hq
 have k13 := g1.cells.2.1
 have G1 := Lh g1
 have F1 := Lh f1
 clear hq g1 f1
 cases bad with
 | true =>
  go_wp2_with fail
  refine bodyPost_ret (results_none rfl _ _ _) rfl ?_
  refine ⟨rfl, ?_, F1.out.more (by simp)⟩
  have e1 : extF slot b l ⟨sl0, seen, true⟩ = [] := by simp [extF]
  have e2 : declareF slot b l ⟨sl0, seen, true⟩ = ⟨sl0, seen, true⟩ := by simp [declareF]
  rw [e1, e2, List.append_nil]
  exact RL.isBad (sl := slots) (G1.out.same (by simp [RS.must])) rfl
 | false =>
  obtain ⟨e0, hI⟩ := HGD.out rfl
  subst e0
  have HI := Lh hI
  clear hI
  cases q with
  | false =>
   go_wp2_with fail
   refine bodyPost_ret (results_none rfl _ _ _) rfl ?_
   refine ⟨rfl, ?_, F1.out.more (by simp)⟩
   have hne2 : slot ≠ (slots.length : Int) := by rw [HN.out]; simpa using HQ.out
   have e1 : extF slot b l ⟨slots, seen, false⟩ = [] := by simp [extF, hne2]
   have e2 : declareF slot b l ⟨slots, seen, false⟩ = ⟨slots, seen, true⟩ := by simp [declareF, hne2]
   rw [e1, e2, List.append_nil]
   exact RL.isBad (sl := slots) (G1.out.same (by simp [RS.must])) rfl
  | true =>
   have heq : slot = (n : Int) := by simpa using HQ.out
   have e1 : extF slot b l ⟨slots, seen, false⟩ = [⟨(slots.length : Int), l.headD 0, b⟩] := by
    simp [extF, heq, HN.out]
   have e2 : declareF slot b l ⟨slots, seen, false⟩ = ⟨slots ++ l, upd keyI seen (slots.length : Int) (some (.bool b)), false⟩ := by
    simp [declareF, heq, HN.out]
   have HE1 := Lh e1
   have HE2 := Lh e2
   have hnew := HI.out.declare (by omega) hne b
   have HNEW := Lh hnew
   clear hnew e1 e2
   subst heq
   rw [HN.out] at hs
   have hvn := HI.out.len
   rw [HN.out] at hvn
   obtain ⟨sv1, vv1, m1, m3, m4, m5⟩ := G1.out
   simp only [RS.must] at m3 m4 m5
   rw [HN.out] at m4
   obtain ⟨nv, hnv⟩ : ∃ nv, vars.length = nv := ⟨_, rfl⟩
   rw [hnv] at m5 hvn
   obtain ⟨A1, c2, rfl⟩ := own_form m4
   obtain ⟨A2, c3, rfl⟩ := own_form m5
   have hBw1 : B ≤ w1.heap.size := by have := F1.out.size; omega
   have hl1 := F1.out.blk HL.out (by decide)
   obtain ⟨hd, lr, rfl⟩ : ∃ hd lr, l = hd :: lr := by
    cases l with
    | nil => exact absurd rfl hne
    | cons a r => exact ⟨a, r, rfl⟩
   have hl0 : w1.drew.cell? ⟨lb, 0, none⟩ = some (.int .i8 hd) := hl1.cell 0
   have kk1 := m3.drew.cell 1
   have kk2 := m3.drew.cell 2
   have kf2 := m3.drew.frozen 2
   obtain ⟨ll, hll2⟩ : ∃ ll, (hd :: lr).length = ll := ⟨_, rfl⟩
   have hlp : 0 < ll := by rw [← hll2]; simp
   rw [hll2] at hll hc ⊢
   have hv0 := var_el
   have M3 := Lh m3.drew
   have M4 := Lh m4.drew
   have M5 := Lh m5.drew
   have HL1 := Lh hl1.drew
   have HNV := Lh hnv
   have HLL2 := Lh hll2
   have F1d := Lh F1.out.drew
   clear m3 m4 m5 hl1 hnv hll2 hv0
   go_wp2_with fail
   refine wp_region_text3 (by kernel_rfl) (by kernel_rfl) ?_
   obtain ⟨W, hW⟩ : ∃ W, W = w1.drew := ⟨_, rfl⟩
   have hzW : W.heap.size = w1.heap.size := by rw [hW]; rfl
   rw [← hW] at M3 M4 M5 HL1 F1d kk1 kk2 kf2 hl0 ⊢
   have HW := Lh hW
   clear hW
   have hBW : B ≤ W.heap.size := by omega
   have HZW := Lh hzW
   clear hzW
   go_wp2_with (at_builtin; go_loud (refine wpList_append1 var_el rfl _ _ rfl B W [.string ByteArray.empty, .int .i64 (n : Int), .int .i8 hd, .bool b] rfl (.slice A2 nv c3) nv _ rfl M5.out rfl rfl (by intro u hu; simp at hu; rcases hu with rfl | rfl | rfl | rfl <;> rfl) (by unfold maxLen; omega) (by omega) hBW ?_; intro v4 w4 hown4 hg4; obtain ⟨A4, c4, rfl⟩ := own_form hown4; have hk4 := M3.out.grown hg4 (own_blk_ne M5.out M3.out (by decide)).symm; have z41 := hk4.frozen 2; have hk41 := hk4.cell 2))
   refine Only.normal ?_
   have hS4 := own_other M4.out M5.out (by decide) hg4
   have hL4 := HL1.out.grown hg4 (own_blk_ne M5.out HL1.out (by decide)).symm
   have hF4 := (F1d.out.more (T' := [150, 40, 152]) (by simp)).grown M5.out hg4 (Nat.le_refl _) hBW (by simp)
   obtain ⟨W5, hW5⟩ : ∃ W5, W5 = w4.setCell ⟨kb, 2, none⟩ (.slice A4 (nv + 1) c4) := ⟨_, rfl⟩
   rw [← hW5]
   have hk5 := hk4.set_ 2 (.slice A4 (nv + 1) c4)
   have hV5 := own_setCell hown4 (own_blk_ne hown4 hk4 (by decide)) (p := ⟨kb, 2, none⟩) (.slice A4 (nv + 1) c4)
   have hS5 := own_setCell hS4 (own_blk_ne hS4 hk4 (by decide)) (p := ⟨kb, 2, none⟩) (.slice A4 (nv + 1) c4)
   have hL5 := hL4.far (p := ⟨kb, 2, none⟩) (hL4.ne_ hk4 (by decide)) (.slice A4 (nv + 1) c4)
   have hF5 := hF4.set_ hk4 hB (i := 2) (by simp) (.slice A4 (nv + 1) c4)
   rw [← hW5] at hk5 hV5 hS5 hL5 hF5
   have kk51 := hk5.cell 1
   have kf51 := hk5.frozen 1
   have hBW5 : B ≤ W5.heap.size := Nat.le_trans hBW (by rw [hW5]; simpa using hg4.size)
   have K5 := Lh hk5
   have V5 := Lh hV5
   have S5 := Lh hS5
   have L5 := Lh hL5
   have F5 := Lh hF5
   clear hk5 hV5 hS5 hL5 hF5 hW5 hS4 hL4 hF4 hk4 z41 hk41 hown4 hg4
   obtain ⟨i0, z0, hi0, hz0, hsz0, hby0, hzc0⟩ := slot_el.info
   go_wp2_with (at_builtin; go_loud (refine wpList_append_own_at _ rfl _ _ 22 rfl B 40 i0 z0 1 1 slot_el.und hi0 hz0 hsz0 hby0 hzc0 (by decide) (.slice A1 n c2) n _ rfl S5.out ⟨lb, 0, none⟩ ll c ((hd :: lr).map (Value.int .i8)) rfl (by rw [List.length_map, HLL2.out]; omega) (fun j u hj => news_cell L5.out hj) (by intro u hu; obtain ⟨y, _, rfl⟩ := List.mem_map.1 hu; rfl) (by unfold maxLen; omega) (by omega) hBW5 ?_; intro v6 w6 hown6 hg6 _ _; obtain ⟨A6, c6, rfl⟩ := own_form hown6; have hk6 := K5.out.grown hg6 (own_blk_ne S5.out K5.out (by decide)).symm; have c61 := hk6.cell 1; have z61 := hk6.frozen 1; have hV6 := own_other V5.out S5.out (by decide) hg6; have hF6 := F5.out.grown S5.out hg6 (Nat.le_refl _) hBW5 (by simp)))
   go_end0
   rw [HE1.out, HE2.out]
   refine ⟨rfl, RL.of ⟨.slice A6 (n + ll) c6, .slice A4 (nv + 1) c4, hB, hk6.set_ 1 _, ?_, ?_⟩ HNEW.out, hF6.set_ hk6 hB (by simp) _⟩
   ·have e : (slots ++ hd :: lr).length = n + ll := by rw [List.length_append, HN.out, HLL2.out]
    have e2 : (slots ++ hd :: lr).map (Value.int .i8) = slots.map (Value.int .i8) ++ (hd :: lr).map (Value.int .i8) := List.map_append
    have := own_setCell hown6 (own_blk_ne hown6 hk6 (by decide)) (p := ⟨kb, 1, none⟩) (.slice A6 (n + ll) c6)
    rw [← e2, ← e] at this
    rw [← e]
    exact this
   ·have e : (vars ++ [(⟨(slots.length : Int), (hd :: lr).headD 0, b⟩ : Vr)]).length = nv + 1 := by rw [List.length_append, HNV.out]; rfl
    have e2 : varVals (vars ++ [(⟨(slots.length : Int), (hd :: lr).headD 0, b⟩ : Vr)]) = varVals vars ++ [Value.string ByteArray.empty, Value.int .i64 (n : Int), Value.int .i8 hd, Value.bool b] := by
     rw [HN.out]
     simp [varVals, Vr.cells]
    have := own_setCell hV6 (own_blk_ne hV6 hk6 (by decide)) (p := ⟨kb, 1, none⟩) (.slice A6 (n + ll) c6)
    rw [← e2, ← e] at this
    rw [← e]
    exact this
end
end Go.Proofs.Ytggibiodeecljaa
