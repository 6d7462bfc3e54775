/- code.Read of any bytes. code.Size, code.All. rows.Heap[int], as plain functions on the list of its entries. No program in sight. verify.Code, as plain functions. No program in sight. rows.Heap[int]: what is taken is the least of what was put. Plain lists, no program in sight. -/
import Derived.Test.YtabpheanbomibaaGreatDoorKinds
import Derived.Test.YtabpheanbomibaaGreatDoorRead0
import Derived.Test.YtabpheanbomibaaGreatDoorRead1
import Derived.Test.YtabpheanbomibaaGreatDoorRead2
import Derived.Test.YtabpheanbomibaaGreatDoorRead3
import Derived.Test.YtabpheanbomibaaGreatDoorRead4
import Derived.Test.YtabpheanbomibaaGreatDoorSmall
namespace Go.Proofs.YtabpheanbomibaaGreatDoor
open Go.RowKit

theorem read_any (A : Option Addr) (l : List Int) (cap : Nat) (at_ : Int) (w : World) (hl : l.length ≤ 1000000) (hcap : l.length ≤ cap) (hb : BytesAt w A l) :
    Calls Tryz.prog 79 #[.slice A l.length cap, .int .i64 at_] w fun e w' => e = .returned (.tuple #[.agg (readM l at_).1.cells, .int .i64 (readM l at_).2]) ∧ Below w.heap.size w w' := by
  unfold readM
  by_cases h : at_ < 0 ∨ (l.length : Int) ≤ at_
  · rw [if_pos h]
    exact read_out A l.length cap at_ w hl (by omega)
  rw [if_neg h]
  obtain ⟨i, hi⟩ := Int.eq_ofNat_of_zero_le (show 0 ≤ at_ by omega)
  subst hi
  rw [Int.toNat_natCast]
  have hil : i < l.length := by omega
  have hgo : ∀ k, k < l.length → l[k]? = some (l.getD k 0) := fun k hk => by rw [List.getD_eq_getElem?_getD, List.getElem?_eq_getElem hk]; rfl
  obtain ⟨b, off, rfl, hbl, hc⟩ := hb.at_ i _ (hgo i hil)
  have hcell : ∀ k, k < l.length → w.cell? ⟨b, off + k, none⟩ = some (.int .u8 (l.getD k 0)) ∧ 0 ≤ l.getD k 0 ∧ l.getD k 0 ≤ 255 := fun k hk => by
    obtain ⟨b2, off2, e, _, hc2⟩ := hb.at_ k _ (hgo k hk)
    injection e with e
    injection e with e1 e2
    subst e1 e2
    exact ⟨hc2, hb.byte _ (List.mem_of_getElem? (hgo k hk))⟩
  cases hf : formOf (l.getD i 0) with
  | none => exact read_noform b off l.length cap i _ w hl hil hbl hc hf
  | some p =>
    obtain ⟨nm, k⟩ := p
    simp only
    have hk := form_kind hf
    simp only at hk
    rcases hk with rfl | rfl | rfl | rfl
    · have hsz : sizeK 0 = 0 := rfl
      rw [hsz, if_neg (by omega)]
      by_cases hce : i + 1 < cap
      · exact read_yes0 b off l.length cap i _ nm w hl hcap hil hbl hc hf hce
      · exact read_yes4 b off l.length cap i _ nm w hl hcap hil hbl hc hf (by omega)
    · have hsz : sizeK 1 = 1 := rfl
      rw [hsz]
      by_cases hs : (l.length : Int) - i - 1 < 1
      · rw [if_pos hs]
        exact read_cut1 b off l.length cap i _ nm w hl hcap hil hbl hc hf hs
      · rw [if_neg hs]
        obtain ⟨d1, d10, d11⟩ := hcell (i + 1) (by omega)
        exact read_yes1 b off l.length cap i _ nm w hl hcap hil hbl hc hf (by omega) _ d10 d11 d1
    · have hsz : sizeK 2 = 2 := rfl
      rw [hsz]
      by_cases hs : (l.length : Int) - i - 1 < 2
      · rw [if_pos hs]
        exact read_cut2 b off l.length cap i _ nm w hl hcap hil hbl hc hf hs
      · rw [if_neg hs]
        obtain ⟨d1, d10, d11⟩ := hcell (i + 1) (by omega)
        obtain ⟨d2, d20, d21⟩ := hcell (i + 2) (by omega)
        exact read_yes2 b off l.length cap i _ nm w hl hcap hil hbl hc hf (by omega) _ d10 d11 d1 _ d20 d21 d2
    · have hsz : sizeK 3 = 4 := rfl
      rw [hsz]
      by_cases hs : (l.length : Int) - i - 1 < 4
      · rw [if_pos hs]
        exact read_cut3 b off l.length cap i _ nm w hl hcap hil hbl hc hf hs
      · rw [if_neg hs]
        obtain ⟨d1, d10, d11⟩ := hcell (i + 1) (by omega)
        obtain ⟨d2, d20, d21⟩ := hcell (i + 2) (by omega)
        obtain ⟨d3, d30, d31⟩ := hcell (i + 3) (by omega)
        obtain ⟨d4, d40, d41⟩ := hcell (i + 4) (by omega)
        exact read_yes3 b off l.length cap i _ nm w hl hcap hil hbl hc hf (by omega) _ d10 d11 d1 _ d20 d21 d2 _ d30 d31 d3 _ d40 d41 d4
end Go.Proofs.YtabpheanbomibaaGreatDoor
namespace Go.Proofs.YtabpheanbomibaaGreatDoor
open Go.RowKit
set_option linter.unusedVariables false

def sizeI (op : Int) : Int := match formOf op with | none => 0 | some p => 1 + sizeK p.2

set_option maxRecDepth 100000 in
set_option maxHeartbeats 1000000 in
theorem size_none (op : Int) (w : World) (hf : formOf op = none) : Calls Tryz.prog 83 #[.int .u8 op] w fun e w' => e = .returned (.int .i64 0) ∧ Below w.heap.size w w' := by
  have HF := Lib.hid hf
  clear hf
  go_enter Tryz.func83, Tryz.ntmps83
  go_wp2_with fail
  refine (of_none op _ HF.out).mono ?_
  rintro e w1 ⟨rfl, hb⟩
  go_wp2_with fail
  go_ret
  exact ⟨rfl, hb.alloc hb.size _⟩
set_option maxRecDepth 100000 in
set_option maxHeartbeats 1000000 in
theorem size_some (op : Int) (nm : ByteArray) (k : Int) (w : World) (hf : formOf op = some (nm, k)) : Calls Tryz.prog 83 #[.int .u8 op] w fun e w' => e = .returned (.int .i64 (1 + sizeK k)) ∧ Below w.heap.size w w' := by
  have hk := form_kind hf
  simp only at hk
  have hof : ∃ F, Calls Tryz.prog 106 #[.int .u8 op] w fun e w' => e = .returned (.tuple #[.agg #[.string nm, .int .i64 k, .func (Fn.func F) #[] #[]], .bool true]) ∧ Below w.heap.size w w' := by
    rcases hk with rfl | rfl | rfl | rfl
    · exact ⟨_, of_some0 op nm w hf⟩
    · exact ⟨_, of_some1 op nm w hf⟩
    · exact ⟨_, of_some2 op nm w hf⟩
    · exact ⟨_, of_some3 op nm w hf⟩
  obtain ⟨rd, hof⟩ := hof
  have hsk : 0 ≤ sizeK k ∧ sizeK k ≤ 4 := by unfold sizeK; rcases hk with rfl | rfl | rfl | rfl <;> decide
  obtain ⟨sk, hs⟩ : ∃ s, s = sizeK k := ⟨_, rfl⟩
  have hsz := fun w => size_any k w
  rw [← hs] at hsk ⊢
  simp only [← hs] at hsz
  obtain ⟨h0, h1⟩ := hsk
  have HOF := Lib.hid hof
  have HSZ := Lib.hid hsz
  clear hof hsz hf hk hs
  go_enter Tryz.func83, Tryz.ntmps83
  go_wp2_with fail
  refine HOF.out.mono ?_
  rintro e w1 ⟨rfl, hb⟩
  have HB := Lib.hid hb
  clear hb
  go_wp2_with fail
  refine (HSZ.out _).mono ?_
  rintro e w2 ⟨rfl, rfl⟩
  go_wp2_with fail
  go_ret
  exact ⟨rfl, HB.out.alloc HB.out.size _⟩
theorem sizeI_any (op : Int) (w : World) : Calls Tryz.prog 83 #[.int .u8 op] w fun e w' => e = .returned (.int .i64 (sizeI op)) ∧ Below w.heap.size w w' := by
  unfold sizeI
  cases hf : formOf op with
  | none => exact size_none op w hf
  | some p => exact size_some op p.1 p.2 w hf
theorem sizeI_bd (op : Int) : 0 ≤ sizeI op ∧ sizeI op ≤ 5 := by
  unfold sizeI
  cases hf : formOf op with
  | none => simp only; omega
  | some p =>
    have hk := form_kind hf
    simp only
    unfold sizeK
    rcases hk with h | h | h | h <;> rw [h] <;> decide

/-- code.All: from a place on, what is read so far. -/
def allM (l : List Int) : Nat → Nat → List Ins → List Ins × Int × Int
  | 0, _, acc => (acc, 0, 0)
  | f + 1, at_, acc => if l.length ≤ at_ then (acc, 0, 0)
    else if (readM l at_).2 = 0 then allM l f (at_ + (max 1 (sizeI (readM l at_).1.op)).toNat) (acc ++ [(readM l at_).1])
    else ([], (readM l at_).2, at_)
def insVals (acc : List Ins) : List Value := acc.flatMap fun x => x.cells.toList
theorem insVals_snoc (acc : List Ins) (x : Ins) : insVals (acc ++ [x]) = insVals acc ++ x.cells.toList := by simp [insVals]
theorem infoIns : (Tryz.prog.info? 100).map (fun i => (i.zero, i.size, i.bytes)) = some (some (.agg #[.int .i64 0, .int .u8 0, .int .i64 0, .int .i64 0, .int .i64 0]), 5, 40) := by kernel_rfl
theorem insEl : ElT Tryz.prog 106 100 5 40 := ⟨Tryz.underlying106, by decide, by
  obtain ⟨i0, hi, hz0, hz1, hz2⟩ := info_parts infoIns
  exact ⟨i0, _, hi, hz0, hz1, hz2, rfl⟩⟩

end Go.Proofs.YtabpheanbomibaaGreatDoor
namespace Go.Proofs.YtabpheanbomibaaGreatDoor
open Go.RowKit
set_option linter.unusedVariables false

/-- An entry: the thing, and when it came. -/
abbrev HEnt := Int × Int
def aheadH (a b : HEnt) : Bool := decide (a.1 < b.1) || (!decide (b.1 < a.1) && decide (a.2 < b.2))
def atH (l : List HEnt) (i : Nat) : HEnt := l.getD i (0, 0)
def swapH (l : List HEnt) (i k : Nat) : List HEnt := (l.set i (atH l k)).set k (atH l i)
def upH : Nat → Nat → List HEnt → List HEnt
  | 0, _, l => l
  | f + 1, i, l => if 0 < i ∧ aheadH (atH l i) (atH l ((i - 1) / 2)) = true then upH f ((i - 1) / 2) (swapH l i ((i - 1) / 2)) else l
/-- Put, of one. -/
def putH (l : List HEnt) (e : HEnt) : List HEnt := upH (l.length + 1) l.length (l ++ [e])
/-- Which of the two below. -/
def kidH (l : List HEnt) (i : Nat) : Nat := if 2 * i + 2 < l.length ∧ aheadH (atH l (2 * i + 2)) (atH l (2 * i + 1)) = true then 2 * i + 2 else 2 * i + 1
def downH : Nat → Nat → List HEnt → List HEnt
  | 0, _, l => l
  | f + 1, i, l => if l.length ≤ 2 * i + 1 then l else if aheadH (atH l (kidH l i)) (atH l i) = true then downH f (kidH l i) (swapH l i (kidH l i)) else l
/-- The last one first, without the last. -/
def cutH (l : List HEnt) : List HEnt := (l.set 0 (atH l (l.length - 1))).take (l.length - 1)
/-- Take, of what is not empty: what is left. -/
def takeH (l : List HEnt) : List HEnt := downH (l.length - 1) 0 (cutH l)

theorem swapH_len (l : List HEnt) (i k : Nat) : (swapH l i k).length = l.length := by simp [swapH]
theorem upH_len : ∀ f i l, (upH f i l).length = l.length
  | 0, _, l => rfl
  | f + 1, i, l => by
    rw [upH]
    split
    · rw [upH_len f, swapH_len]
    · rfl
theorem putH_len (l : List HEnt) (e : HEnt) : (putH l e).length = l.length + 1 := by simp [putH, upH_len]
theorem downH_len : ∀ f i l, (downH f i l).length = l.length
  | 0, _, l => rfl
  | f + 1, i, l => by
    rw [downH]
    split
    · rfl
    split
    · rw [downH_len f, swapH_len]
    · rfl
theorem cutH_len (l : List HEnt) : (cutH l).length = l.length - 1 := by simp [cutH]
theorem takeH_len (l : List HEnt) : (takeH l).length = l.length - 1 := by rw [takeH, downH_len, cutH_len]
def entVals (l : List HEnt) : List Value := l.flatMap fun e => [.int .i64 e.1, .int .i64 e.2]
theorem entVals_len (l : List HEnt) : (entVals l).length = l.length * 2 := by
  induction l with
  | nil => rfl
  | cons x r ih => simp only [entVals, List.flatMap_cons, List.length_append, List.length_cons, List.length_nil] at ih ⊢; omega
theorem entVals_at : ∀ (l : List HEnt) (i : Nat), i < l.length → (entVals l)[i * 2]? = some (.int .i64 (atH l i).1) ∧ (entVals l)[i * 2 + 1]? = some (.int .i64 (atH l i).2)
  | [], i, h => by simp at h
  | x :: r, 0, _ => ⟨rfl, rfl⟩
  | x :: r, i + 1, h => by
    have := entVals_at r i (by simpa using h)
    have e : entVals (x :: r) = .int .i64 x.1 :: .int .i64 x.2 :: entVals r := rfl
    rw [e, show (i + 1) * 2 = i * 2 + 1 + 1 by omega]
    exact this
theorem entVals_app (l m : List HEnt) : entVals (l ++ m) = entVals l ++ entVals m := by simp [entVals]
theorem entVals_set : ∀ (l : List HEnt) (i : Nat) (e : HEnt), entVals (l.set i e) = ((entVals l).set (i * 2) (.int .i64 e.1)).set (i * 2 + 1) (.int .i64 e.2)
  | [], i, e => by simp [entVals]
  | x :: r, 0, e => rfl
  | x :: r, i + 1, e => by
    have h := entVals_set r i e
    have q : ∀ y s, entVals (y :: s) = .int .i64 y.1 :: .int .i64 y.2 :: entVals s := fun _ _ => rfl
    rw [List.set_cons_succ, q, q, h, show (i + 1) * 2 = i * 2 + 1 + 1 by omega, show i * 2 + 1 + 1 + 1 = (i * 2 + 1) + 1 + 1 by omega]
    rfl
theorem entVals_take (l : List HEnt) (n : Nat) : entVals (l.take n) = (entVals l).take (n * 2) := by
  induction l generalizing n with
  | nil => simp [entVals]
  | cons x r ih =>
    cases n with
    | zero => simp [entVals]
    | succ n =>
      have q : ∀ y s, entVals (y :: s) = .int .i64 y.1 :: .int .i64 y.2 :: entVals s := fun _ _ => rfl
      rw [List.take_succ_cons, q, q, ih, show (n + 1) * 2 = n * 2 + 1 + 1 by omega]
      rfl
end Go.Proofs.YtabpheanbomibaaGreatDoor
namespace Go.Proofs.YtabpheanbomibaaGreatDoor
open Go.RowKit
set_option linter.unusedVariables false

/-- verify.limits. -/
def limitsV (b slots : List Int) (ints texts : Int) : Int :=
  if 65535 < b.length ∨ 32 < slots.length ∨ slots.any (fun k => decide (k < 1) || decide (6 < k)) = true ∨ ints < 0 ∨ 4096 < ints ∨ texts < 0 ∨ 4096 < texts then 56
  else if slots.length < 2 ∨ slots.getD 0 0 ≠ 3 ∨ slots.getD 1 0 ≠ 4 then 43
  else if b.length = 0 then 49
  else 0
def poolV (ints texts : Int) (op : Int) : Option Int :=
  if op = 1 then some ints else if op = 45 then some texts else if op = 41 then some 4 else if op = 46 then some 13 else if op = 60 then some 9 else none
/-- checker.numbers. -/
def numbersV (slots : List Int) (ints texts : Int) (x : Ins) : Int :=
  if x.op = 4 ∨ x.op = 5 then (if (slots.length : Int) ≤ x.a then 43 else 0)
  else if x.op = 32 then
    if (slots.length : Int) ≤ x.a ∨ (slots.length : Int) ≤ x.b then 43
    else if slots.getD x.a.toNat 0 ≠ 6 ∨ slots.getD x.b.toNat 0 ≠ 1 then 46 else 0
  else if x.op = 24 then (if x.a < 1 ∨ 5 < x.a then 42 else 0)
  else match poolV ints texts x.op with
    | some m => if m ≤ x.a then 42 else 0
    | none => 0
/-- target. -/
def targetV (x : Ins) : Option Int := if x.op = 30 ∨ x.op = 31 ∨ x.op = 33 then some x.a else if x.op = 32 then some x.c else none
/-- The second look: the instructions, or the first fault and its offset. -/
def scanV (b slots : List Int) (ints texts : Int) : Nat → Nat → List Ins → List Ins ⊕ (Int × Int)
  | 0, _, acc => .inl acc
  | f + 1, o, acc =>
    if b.length ≤ o then .inl acc
    else if (readM b o).2 ≠ 0 then .inr ((readM b o).2, o)
    else if numbersV slots ints texts (readM b o).1 ≠ 0 then .inr (numbersV slots ints texts (readM b o).1, o)
    else scanV b slots ints texts f (o + (sizeI (readM b o).1.op).toNat) (acc ++ [(readM b o).1])
def insAt (l : List Ins) (o : Int) : Option Ins := l.find? (fun x => x.at_ == o)
/-- The third look: the first jump that leads to no instruction. -/
def jumpsV (l : List Ins) : List Ins → Option (Int × Int)
  | [] => none
  | x :: r => match targetV x with
    | some tg => if (insAt l tg).isSome = true then jumpsV l r else some (44, x.at_)
    | none => jumpsV l r
/-- What an instruction takes and lays. -/
def takesV (slots : List Int) (x : Ins) : List Int × List Int :=
  if x.op = 1 then ([], [1])
  else if x.op = 2 ∨ x.op = 3 then ([], [2])
  else if x.op = 4 then ([], [slots.getD x.a.toNat 0])
  else if x.op = 5 then ([slots.getD x.a.toNat 0], [])
  else if x.op = 10 ∨ x.op = 11 ∨ x.op = 12 ∨ x.op = 13 ∨ x.op = 14 ∨ x.op = 17 ∨ x.op = 18 then ([1, 1], [1])
  else if x.op = 15 ∨ x.op = 16 ∨ x.op = 42 then ([1], [1])
  else if x.op = 19 ∨ x.op = 20 ∨ x.op = 21 ∨ x.op = 22 then ([1, 1], [2])
  else if x.op = 23 then ([2], [2])
  else if x.op = 24 then ([IntKind.i8.wrap x.a, IntKind.i8.wrap x.a], [2])
  else if x.op = 31 then ([2], [])
  else if x.op = 32 then ([], [3])
  else if x.op = 33 then ([6], [3])
  else if x.op = 40 then ([4], [4])
  else if x.op = 41 then ([4], [5])
  else if x.op = 43 then ([5], [3])
  else if x.op = 44 then ([6, 3], [2])
  else if x.op = 45 then ([3], [2])
  else if x.op = 46 then ((fieldsM.getD x.a.toNat ⟨ByteArray.empty, [], 0, false⟩).args, [(fieldsM.getD x.a.toNat ⟨ByteArray.empty, [], 0, false⟩).tell])
  else if x.op = 60 then ((effectsM.getD x.a.toNat ⟨ByteArray.empty, [], 0, false⟩).args, [])
  else ([], [])

/-- The look's state: the shapes so far, the heap of what waits, the next number of an entry. -/
structure VS where
  stacks : Int → Option (List Int)
  heap : List HEnt
  came : Int
def setV (f : Int → Option (List Int)) (o : Int) (s : List Int) : Int → Option (List Int) := fun y => if y = o then some s else f y
/-- checker.give. -/
def giveV (len : Nat) (frm tg : Int) (st : List Int) (v : VS) : VS × Option (Int × Int) :=
  if (len : Int) ≤ tg then (v, some (49, frm))
  else match v.stacks tg with
    | some s => if s = st then (v, none) else (v, some (48, tg))
    | none => (⟨setV v.stacks tg st, putH v.heap (tg, v.came), v.came + 1⟩, none)
/-- checker.look. -/
def lookV (len : Nat) (slots : List Int) (x : Ins) (v : VS) : VS × Option (Int × Int) :=
  let t := takesV slots x
  let s := (v.stacks x.at_).getD []
  if s.length < t.1.length then (v, some (45, x.at_))
  else
    let bare := s.take (s.length - t.1.length)
    if s.drop (s.length - t.1.length) ≠ t.1 then (v, some (46, x.at_))
    else if 256 < (bare ++ t.2).length then (v, some (47, x.at_))
    else if x.op = 34 ∨ x.op = 35 then (v, none)
    else
      let r := if x.op = 30 then (v, none) else giveV len x.at_ (x.at_ + sizeI x.op) (bare ++ t.2) v
      match r.2 with
      | some f => (r.1, some f)
      | none => match targetV x with
        | none => (r.1, none)
        | some tg => giveV len x.at_ tg (if x.op = 32 ∨ x.op = 33 then bare else bare ++ t.2) r.1
/-- The loop of Code. -/
def loopV (len : Nat) (slots : List Int) (l : List Ins) : Nat → VS → VS × Option (Int × Int)
  | 0, v => (v, none)
  | f + 1, v =>
    if v.heap = [] then (v, none)
    else
      let r := lookV len slots ((insAt l (atH v.heap 0).1).getD ins0) ⟨v.stacks, takeH v.heap, v.came⟩
      match r.2 with
      | some e => (r.1, some e)
      | none => loopV len slots l f r.1
def startV : VS := ⟨setV (fun _ => none) 0 [], [(0, 0)], 1⟩
/-- The shapes in the order of their offsets. -/
def shapesV (len : Nat) (f : Int → Option (List Int)) : List (Int × List Int) := (List.range len).filterMap fun (o : Nat) => (f (o : Int)).map fun s => ((o : Int), s)
def highV (l : List (Int × List Int)) : Int := l.foldl (fun m p => max m (p.2.length : Int)) 0
/-- verify.Code: the shapes, the height; or the fault: the error and the offset. -/
def codeV (b slots : List Int) (ints texts : Int) : List (Int × List Int) × Int × Int × Int :=
  if limitsV b slots ints texts ≠ 0 then ([], 0, limitsV b slots ints texts, 0)
  else match scanV b slots ints texts b.length 0 [] with
    | .inr (e, o) => ([], 0, e, o)
    | .inl l => match jumpsV l l with
      | some (e, o) => ([], 0, e, o)
      | none => match loopV b.length slots l b.length startV with
        | (_, some (e, o)) => ([], 0, e, o)
        | (v, none) => (shapesV b.length v.stacks, highV (shapesV b.length v.stacks), 0, 0)
end Go.Proofs.YtabpheanbomibaaGreatDoor
namespace Go.Proofs.YtabpheanbomibaaGreatDoor
open Go.RowKit
set_option linter.unusedVariables false

def LeH (a b : HEnt) : Prop := a.1 < b.1 ∨ (a.1 = b.1 ∧ a.2 ≤ b.2)
theorem LeH.refl (a : HEnt) : LeH a a := .inr ⟨rfl, Int.le_refl _⟩
theorem LeH.trans {a b c : HEnt} (h : LeH a b) (k : LeH b c) : LeH a c := by
  unfold LeH at h k ⊢
  omega
theorem ahead_no {a b : HEnt} (h : aheadH b a = false) : LeH a b := by
  unfold aheadH at h
  unfold LeH
  simp at h
  omega
theorem ahead_yes {a b : HEnt} (h : aheadH b a = true) : LeH b a := by
  unfold aheadH at h
  unfold LeH
  simp at h
  omega
def IsHeap (l : List HEnt) : Prop := ∀ i, 0 < i → i < l.length → LeH (atH l ((i - 1) / 2)) (atH l i)
theorem atH_eq {l : List HEnt} {i : Nat} (h : i < l.length) : atH l i = l[i] := by
  unfold atH
  rw [List.getD_eq_getElem?_getD, List.getElem?_eq_getElem h]
  rfl
theorem atH_set {l : List HEnt} {i j : Nat} (h : i < l.length) (e : HEnt) : atH (l.set i e) j = if j = i then e else atH l j := by
  unfold atH
  rw [List.getD_eq_getElem?_getD, List.getElem?_set]
  by_cases hj : i = j
  · subst hj
    rw [if_pos rfl, if_pos h, if_pos rfl]
    rfl
  · rw [if_neg hj, if_neg (fun e => hj e.symm), List.getD_eq_getElem?_getD]
theorem atH_swap {l : List HEnt} {i k j : Nat} (hi : i < l.length) (hk : k < l.length) : atH (swapH l i k) j = if j = k then atH l i else if j = i then atH l k else atH l j := by
  unfold swapH
  rw [atH_set (by simpa using hk), atH_set hi]
theorem up_heap : ∀ f i l, i < l.length → i < f → (∀ j, 0 < j → j < l.length → j ≠ i → LeH (atH l ((j - 1) / 2)) (atH l j)) →
    (∀ j, 0 < j → j < l.length → (j - 1) / 2 = i → 0 < i → LeH (atH l ((i - 1) / 2)) (atH l j)) → IsHeap (upH f i l)
  | 0, i, l, _, hf, _, _ => by omega
  | f + 1, i, l, hi, hf, h1, h2 => by
    rw [upH]
    by_cases hc : 0 < i ∧ aheadH (atH l i) (atH l ((i - 1) / 2)) = true
    · rw [if_pos hc]
      obtain ⟨h0, ha⟩ := hc
      have hle := ahead_yes ha
      obtain ⟨p, hp⟩ : ∃ p, (i - 1) / 2 = p := ⟨_, rfl⟩
      have hpi : p < i := by omega
      have hpl : p < l.length := by omega
      rw [hp] at hle ⊢
      refine up_heap f p _ (by rw [swapH_len]; exact hpl) (by omega) ?_ ?_
      · intro j j0 jl jp
        rw [swapH_len] at jl
        rw [atH_swap hi hpl, atH_swap hi hpl, if_neg jp]
        by_cases hji : j = i
        · rw [hji, if_pos rfl, hp, if_pos rfl]
          exact hle
        · rw [if_neg hji]
          by_cases hq : (j - 1) / 2 = p
          · rw [if_pos hq]
            have := h1 j j0 jl hji
            rw [hq] at this
            exact hle.trans this
          · rw [if_neg hq]
            by_cases hq2 : (j - 1) / 2 = i
            · rw [if_pos hq2, ← hp]
              exact h2 j j0 jl hq2 h0
            · rw [if_neg hq2]
              exact h1 j j0 jl hji
      · intro j j0 jl jq p0
        rw [swapH_len] at jl
        rw [atH_swap hi hpl, atH_swap hi hpl, if_neg (by omega), if_neg (by omega), if_neg (by omega)]
        have hpp := h1 p p0 hpl (by omega)
        by_cases hji : j = i
        · rw [if_pos hji]
          exact hpp
        · rw [if_neg hji]
          have := h1 j j0 jl hji
          rw [jq] at this
          exact hpp.trans this
    · rw [if_neg hc]
      intro j j0 jl
      by_cases hji : j = i
      · subst hji
        refine ahead_no ?_
        cases hb : aheadH (atH l j) (atH l ((j - 1) / 2)) with
        | false => rfl
        | true => exact absurd ⟨j0, hb⟩ hc
      · exact h1 j j0 jl hji
theorem kid_spec {l : List HEnt} {i : Nat} (h : 2 * i + 1 < l.length) : (kidH l i = 2 * i + 1 ∨ kidH l i = 2 * i + 2) ∧ kidH l i < l.length ∧ (∀ j, 0 < j → j < l.length → (j - 1) / 2 = i → LeH (atH l (kidH l i)) (atH l j)) := by
  unfold kidH
  by_cases hc : 2 * i + 2 < l.length ∧ aheadH (atH l (2 * i + 2)) (atH l (2 * i + 1)) = true
  · rw [if_pos hc]
    refine ⟨.inr rfl, hc.1, fun j j0 jl jq => ?_⟩
    have : j = 2 * i + 1 ∨ j = 2 * i + 2 := by omega
    rcases this with e | e
    · rw [e]; exact ahead_yes hc.2
    · rw [e]; exact LeH.refl _
  · rw [if_neg hc]
    refine ⟨.inl rfl, h, fun j j0 jl jq => ?_⟩
    have : j = 2 * i + 1 ∨ j = 2 * i + 2 := by omega
    rcases this with e | e
    · rw [e]; exact LeH.refl _
    · rw [e]
      refine ahead_no ?_
      cases hb : aheadH (atH l (2 * i + 2)) (atH l (2 * i + 1)) with
      | false => rfl
      | true => exact absurd ⟨by omega, hb⟩ hc
theorem down_heap : ∀ f i l, l.length ≤ f + i → (∀ j, 0 < j → j < l.length → (j - 1) / 2 ≠ i → LeH (atH l ((j - 1) / 2)) (atH l j)) →
    (∀ j, 0 < j → j < l.length → (j - 1) / 2 = i → 0 < i → LeH (atH l ((i - 1) / 2)) (atH l j)) → IsHeap (downH f i l)
  | 0, i, l, hf, h1, _ => by
    rw [downH]
    intro j j0 jl
    exact h1 j j0 jl (by omega)
  | f + 1, i, l, hf, h1, h2 => by
    rw [downH]
    by_cases hl : l.length ≤ 2 * i + 1
    · rw [if_pos hl]
      intro j j0 jl
      exact h1 j j0 jl (by omega)
    · rw [if_neg hl]
      obtain ⟨k1, k2, k3⟩ := kid_spec (l := l) (i := i) (by omega)
      obtain ⟨k, hk⟩ : ∃ k, kidH l i = k := ⟨_, rfl⟩
      rw [hk] at k1 k2 k3 ⊢
      have hi : i < l.length := by omega
      have hki : (k - 1) / 2 = i := by omega
      by_cases ha : aheadH (atH l k) (atH l i) = true
      · rw [if_pos ha]
        have hle := ahead_yes ha
        refine down_heap f k _ (by rw [swapH_len]; omega) ?_ ?_
        · intro j j0 jl jq
          rw [swapH_len] at jl
          rw [atH_swap hi k2, atH_swap hi k2, if_neg jq]
          by_cases hjk : j = k
          · rw [if_pos hjk, hjk, if_pos hki]
            exact hle
          · rw [if_neg hjk]
            by_cases hji : j = i
            · rw [if_pos hji, hji, if_neg (by omega)]
              exact h2 k (by omega) k2 hki (by omega)
            · rw [if_neg hji]
              by_cases hq : (j - 1) / 2 = i
              · rw [if_pos hq]
                exact k3 j j0 jl hq
              · rw [if_neg hq]
                exact h1 j j0 jl hq
        · intro j j0 jl jq _
          rw [swapH_len] at jl
          rw [atH_swap hi k2, atH_swap hi k2, hki, if_neg (by omega), if_pos rfl, if_neg (by omega), if_neg (by omega)]
          have := h1 j j0 jl (by omega)
          rw [jq] at this
          exact this
      · rw [if_neg ha]
        have hle : LeH (atH l i) (atH l k) := ahead_no (by cases hb : aheadH (atH l k) (atH l i) with
          | false => rfl
          | true => exact absurd hb ha)
        intro j j0 jl
        by_cases hq : (j - 1) / 2 = i
        · rw [hq]
          exact hle.trans (k3 j j0 jl hq)
        · exact h1 j j0 jl hq
theorem atH_app {l m : List HEnt} {i : Nat} (h : i < l.length) : atH (l ++ m) i = atH l i := by
  unfold atH
  rw [List.getD_eq_getElem?_getD, List.getD_eq_getElem?_getD, List.getElem?_append_left h]
theorem put_heap {l : List HEnt} (e : HEnt) (h : IsHeap l) : IsHeap (putH l e) := by
  unfold putH
  refine up_heap _ _ _ (by simp) (by omega) ?_ ?_
  · intro j j0 jl jn
    simp only [List.length_append, List.length_cons, List.length_nil] at jl
    rw [atH_app (by omega), atH_app (by omega)]
    exact h j j0 (by omega)
  · intro j j0 jl jq _
    simp only [List.length_append, List.length_cons, List.length_nil] at jl
    omega
theorem atH_cut {l : List HEnt} {j : Nat} (hj : j < l.length - 1) : atH (cutH l) j = if j = 0 then atH l (l.length - 1) else atH l j := by
  have h : atH (cutH l) j = atH (l.set 0 (atH l (l.length - 1))) j := by
    unfold cutH
    generalize l.set 0 (atH l (l.length - 1)) = m
    unfold atH
    rw [List.getD_eq_getElem?_getD, List.getD_eq_getElem?_getD, List.getElem?_take, if_pos hj]
  rw [h, atH_set (by omega)]
theorem take_heap {l : List HEnt} (h : IsHeap l) : IsHeap (takeH l) := by
  unfold takeH
  refine down_heap _ _ _ (by rw [cutH_len]; omega) ?_ ?_
  · intro j j0 jl jq
    rw [cutH_len] at jl
    rw [atH_cut (by omega), atH_cut jl, if_neg jq, if_neg (by omega)]
    exact h j j0 (by omega)
  · intro j j0 jl jq i0
    omega
theorem heap_least : ∀ (i : Nat) {l : List HEnt}, IsHeap l → i < l.length → LeH (atH l 0) (atH l i) := by
  intro i
  induction i using Nat.strongRecOn with
  | _ i ih =>
    intro l h hi
    by_cases h0 : i = 0
    · rw [h0]; exact LeH.refl _
    · exact (ih ((i - 1) / 2) (by omega) h (by omega)).trans (h i (by omega) hi)
theorem heap_mem_least {l : List HEnt} (h : IsHeap l) {x : HEnt} (hx : x ∈ l) : LeH (atH l 0) x := by
  obtain ⟨i, hi, rfl⟩ := List.getElem_of_mem hx
  rw [← atH_eq hi]
  exact heap_least i h hi
/-- One, if it is this. -/
def isH (a x : HEnt) : Nat := if a = x then 1 else 0
theorem count_set_H {l : List HEnt} {i : Nat} (h : i < l.length) (a x : HEnt) : (l.set i a).count x + isH (atH l i) x = l.count x + isH a x := by
  rw [List.count_set h, atH_eq h]
  have hp : l[i] = x → 0 < l.count x := fun e => List.count_pos_iff.2 (e ▸ List.getElem_mem h)
  unfold isH
  by_cases h1 : l[i] = x
  · have := hp h1
    by_cases h2 : a = x
    · rw [if_pos h1, if_pos h2]; simp [h1, h2]; omega
    · rw [if_pos h1, if_neg h2]; simp [h1, h2]; omega
  · by_cases h2 : a = x
    · rw [if_neg h1, if_pos h2]; simp [h1, h2]
    · rw [if_neg h1, if_neg h2]; simp [h1, h2]
theorem count_swap {l : List HEnt} {i k : Nat} (hi : i < l.length) (hk : k < l.length) (x : HEnt) : (swapH l i k).count x = l.count x := by
  unfold swapH
  have h1 := count_set_H (l := l.set i (atH l k)) (i := k) (by simpa using hk) (atH l i) x
  have h2 := count_set_H hi (atH l k) x
  have h3 : atH (l.set i (atH l k)) k = atH l k := by
    rw [atH_set hi]
    split
    · rfl
    · rfl
  rw [h3] at h1
  omega
theorem count_up : ∀ f i l (x : HEnt), i < l.length → (upH f i l).count x = l.count x
  | 0, _, l, _, _ => rfl
  | f + 1, i, l, x, hi => by
    rw [upH]
    split
    · rw [count_up f _ _ x (by rw [swapH_len]; omega), count_swap hi (by omega)]
    · rfl
theorem count_down : ∀ f i l (x : HEnt), (downH f i l).count x = l.count x
  | 0, _, l, _ => rfl
  | f + 1, i, l, x => by
    rw [downH]
    split
    · rfl
    · split
      · obtain ⟨k1, k2, k3⟩ := kid_spec (l := l) (i := i) (by omega)
        rw [count_down f, count_swap (by omega) k2]
      · rfl
theorem count_put (l : List HEnt) (e x : HEnt) : (putH l e).count x = l.count x + isH e x := by
  unfold putH
  rw [count_up _ _ _ _ (by simp), List.count_append]
  congr 1
  unfold isH
  by_cases h : e = x
  · rw [if_pos h, h]; simp
  · rw [if_neg h]; simp [h]
theorem last_H {l : List HEnt} {m : Nat} (hm : l.length = m + 1) : l = l.take m ++ [atH l m] := by
  conv => lhs; rw [← List.take_length (l := l)]
  rw [hm, List.take_add_one, List.getElem?_eq_getElem (by omega), atH_eq (by omega)]
  rfl
theorem count_take {l : List HEnt} (h : l ≠ []) (x : HEnt) : (takeH l).count x + isH (atH l 0) x = l.count x := by
  have h0 : 0 < l.length := List.length_pos_iff.2 h
  unfold takeH
  rw [count_down]
  unfold cutH
  obtain ⟨m, hm⟩ : ∃ m, l.length = m + 1 := ⟨l.length - 1, by omega⟩
  rw [hm, show m + 1 - 1 = m by omega]
  have hl := count_set_H h0 (atH l m) x
  have hs : (l.set 0 (atH l m)).count x = ((l.set 0 (atH l m)).take m).count x + isH (atH l m) x := by
    have e := last_H (l := l.set 0 (atH l m)) (m := m) (by simpa using hm)
    have em : atH (l.set 0 (atH l m)) m = atH l m := by
      rw [atH_set h0]
      split
      · rfl
      · rfl
    rw [em] at e
    conv => lhs; rw [e]
    rw [List.count_append]
    congr 1
    unfold isH
    by_cases hx : atH l m = x
    · rw [if_pos hx, hx]; simp
    · rw [if_neg hx]; simp [hx]
  omega
end Go.Proofs.YtabpheanbomibaaGreatDoor
