/- code.of, size, the readers of operands. -/
import Derived.Test.YtabpheanbomibaaGreatDoorBits
import Derived.Test.YtabpheanbomibaaGreatDoorForms
namespace Go.Proofs.YtabpheanbomibaaGreatDoor
open Go.RowKit
set_option linter.unusedVariables false

def formOf (x : Int) : Option (ByteArray × Int) := (formsL.find? (fun p => p.1 == x)).map (·.2)
theorem updB (f : Int → Option Value) (x y : Int) (v : Option Value) : upd keyB f x v y = if y = x then v else f y := by
  unfold upd
  have : keyB.eqb y x = decide (y = x) := by show (y == x) = _; rw [Bool.eq_iff_iff]; simp
  rw [this]
  by_cases h : y = x <;> simp [h]
theorem foldl_upd (x : Int) : ∀ (l : List (Int × ByteArray × Int)) (f : Int → Option Value), (l.map (·.1)).Nodup →
    l.foldl (fun f p => upd keyB f p.1 (some (formV p.2.1 p.2.2))) f x = match l.find? (fun p => p.1 == x) with | some p => some (formV p.2.1 p.2.2) | none => f x
  | [], f, _ => rfl
  | p :: r, f, hn => by
    simp only [List.map_cons, List.nodup_cons] at hn
    rw [List.foldl_cons, foldl_upd x r _ hn.2, List.find?_cons]
    cases hp : p.1 == x with
    | true =>
      have hpx : p.1 = x := by simpa using hp
      have : r.find? (fun q => q.1 == x) = none := by
        rw [List.find?_eq_none]
        intro q hq he
        have : q.1 = x := by simpa using he
        exact hn.1 (by rw [hpx, ← this]; exact List.mem_map_of_mem hq)
      rw [this]
      simp only [updB, hpx, if_true]
    | false =>
      have hpx : ¬ p.1 = x := by simpa using hp
      cases r.find? (fun q => q.1 == x) with
      | some q => rfl
      | none =>
        simp only [updB]
        rw [if_neg (fun h => hpx h.symm)]
theorem formsF_of (x : Int) : formsF x = (formOf x).map fun p => formV p.1 p.2 := by
  unfold formsF formOf
  rw [foldl_upd x formsL _ (by decide)]
  cases formsL.find? (fun p => p.1 == x) <;> rfl
theorem form_kind {x : Int} {p : ByteArray × Int} (h : formOf x = some p) : p.2 = 0 ∨ p.2 = 1 ∨ p.2 = 2 ∨ p.2 = 3 := by
  unfold formOf at h
  rw [Option.map_eq_some_iff] at h
  obtain ⟨q, hq, rfl⟩ := h
  have := List.mem_of_find?_eq_some hq
  have hall : ∀ q ∈ formsL, q.2.2 = 0 ∨ q.2.2 = 1 ∨ q.2.2 = 2 ∨ q.2.2 = 3 := by unfold formsL; simp
  exact hall q this

theorem zero_form (w : World) : (zeroValue 198).run Tryz.prog w = .ok (.agg #[.string ByteArray.empty, .int .i64 0, .nilFunc]) w := by kernel_rfl
def readerF (k : Int) : Value := .func (Fn.func (if k = 0 then 136 else if k = 1 then 137 else if k = 2 then 138 else 140)) #[] #[]

set_option maxRecDepth 100000 in
set_option maxHeartbeats 1000000 in
/-- code.of, of no opcode. -/
theorem of_none (x : Int) (w : World) (hx : formOf x = none) :
    Calls Tryz.prog 106 #[.int .u8 x] w fun e w' => e = .returned (.tuple #[.agg #[.string ByteArray.empty, .int .i64 0, .nilFunc], .bool false]) ∧ Below w.heap.size w w' := by
  have hf : formsF x = none := by rw [formsF_of, hx]; rfl
  have HF := Lib.hid hf
  clear hf hx
  go_enter Tryz.func106, Tryz.ntmps106
  go_wp2_with fail
  refine (forms_any _).mono ?_
  rintro e w1 ⟨rfl, hm, hb⟩
  have hlk := hm.lookup keyB Tryz.underlying237 zero_form x true
  rw [HF.out] at hlk
  simp only [World.size_alloc] at hlk
  have hlk2 : (Instr.lookup 237 (.map (some (w.heap.size + 1 + 1))) (.int .u8 x) true).run Tryz.prog w1 = .ok (.tuple #[.agg #[.string ByteArray.empty, .int .i64 0, .nilFunc], .bool false]) w1 := hlk
  clear hlk
  have hb0 : Below w.heap.size w w1 := (((Below.refl _ _).alloc (Nat.le_refl _) _).alloc (by simp) _).trans (hb.mono (by simp; omega))
  have hz1 := hb.size
  have hr0 := ((Blk.new w 198 #[.string ByteArray.empty, .int .i64 0, .nilFunc]).alloc (.cells #[.func (Fn.func 136) #[] #[], .func (Fn.func 137) #[] #[], .func (Fn.func 138) #[] #[], .func (Fn.func 140) #[] #[]] 236)).below hb (by simp; omega)
  simp only [World.size_alloc] at hz1
  have hlt1 : w.heap.size < w1.heap.size := by omega
  have hne1 : w.heap.size ≠ w1.heap.size := by omega
  have z0 := hr0.frozen 0
  have z1 := hr0.frozen 1
  have z2 := hr0.frozen 2
  have y0 := hr0.cell 0
  have y1 := hr0.cell 1
  have y2 := hr0.cell 2
  have HB := Lib.hid hb0
  clear hm hb hb0 hr0
  go_wp2_with fail
  exact bodyPost_ret (v := .tuple #[.agg #[.string ByteArray.empty, .int .i64 0, .nilFunc], .bool false]) (by simp [results, Tryz.results106, go_sem, *]) rfl ⟨rfl, (((HB.out.setCell (Nat.le_refl _) _).setCell (Nat.le_refl _) _).setCell (Nat.le_refl _) _).alloc (by simp [World.setCell]; omega) _⟩

set_option maxRecDepth 100000 in
set_option maxHeartbeats 1000000 in
theorem of_some0 (x : Int) (nm : ByteArray) (w : World) (hx : formOf x = some (nm, 0)) :
    Calls Tryz.prog 106 #[.int .u8 x] w fun e w' => e = .returned (.tuple #[.agg #[.string nm, .int .i64 0, readerF 0], .bool true]) ∧ Below w.heap.size w w' := by
  have hrd : readerF 0 = .func (Fn.func 136) #[] #[] := rfl
  rw [hrd]
  have hf : formsF x = some (formV nm 0) := by rw [formsF_of, hx]; rfl
  have HF := Lib.hid hf
  clear hf hx hrd
  go_enter Tryz.func106, Tryz.ntmps106
  go_wp2_with fail
  refine (forms_any _).mono ?_
  rintro e w1 ⟨rfl, hm, hb⟩
  have hlk := hm.lookup keyB Tryz.underlying237 zero_form x true
  rw [HF.out] at hlk
  simp only [World.size_alloc] at hlk
  have hlk2 : (Instr.lookup 237 (.map (some (w.heap.size + 1 + 1))) (.int .u8 x) true).run Tryz.prog w1 = .ok (.tuple #[.agg #[.string nm, .int .i64 0, .nilFunc], .bool true]) w1 := hlk
  clear hlk
  have hb0 : Below w.heap.size w w1 := (((Below.refl _ _).alloc (Nat.le_refl _) _).alloc (by simp) _).trans (hb.mono (by simp; omega))
  have hz1 := hb.size
  have hr0 := ((Blk.new w 198 #[.string ByteArray.empty, .int .i64 0, .nilFunc]).alloc (.cells #[.func (Fn.func 136) #[] #[], .func (Fn.func 137) #[] #[], .func (Fn.func 138) #[] #[], .func (Fn.func 140) #[] #[]] 236)).below hb (by simp; omega)
  have hr1 := (Blk.new (w.alloc (.cells #[.string ByteArray.empty, .int .i64 0, .nilFunc] 198)) 236 #[.func (Fn.func 136) #[] #[], .func (Fn.func 137) #[] #[], .func (Fn.func 138) #[] #[], .func (Fn.func 140) #[] #[]]).below hb (by simp)
  simp only [World.size_alloc] at hz1 hr1
  have hlt1 : w.heap.size < w1.heap.size := by omega
  have hne1 : w.heap.size ≠ w1.heap.size := by omega
  have hlt2 : w.heap.size + 1 < w1.heap.size := by omega
  have hne2 : w.heap.size + 1 ≠ w1.heap.size := by omega
  have z0 := hr0.frozen 0
  have z1 := hr0.frozen 1
  have z2 := hr0.frozen 2
  have y0 := hr0.cell 0
  have y1 := hr0.cell 1
  have y2 := hr0.cell 2
  have x0 := hr1.cell 0
  have HB := Lib.hid hb0
  clear hm hb hb0 hr0 hr1
  go_wp2_with fail
  exact bodyPost_ret (v := .tuple #[.agg #[.string nm, .int .i64 0, .func (Fn.func 136) #[] #[]], .bool true]) (by simp [results, Tryz.results106, go_sem, *]) rfl ⟨rfl, (((HB.out.setCell (Nat.le_refl _) _).setCell (Nat.le_refl _) _).setCell (Nat.le_refl _) _).alloc (by simp [World.setCell]; omega) _⟩

set_option maxRecDepth 100000 in
set_option maxHeartbeats 1000000 in
theorem of_some1 (x : Int) (nm : ByteArray) (w : World) (hx : formOf x = some (nm, 1)) :
    Calls Tryz.prog 106 #[.int .u8 x] w fun e w' => e = .returned (.tuple #[.agg #[.string nm, .int .i64 1, readerF 1], .bool true]) ∧ Below w.heap.size w w' := by
  have hrd : readerF 1 = .func (Fn.func 137) #[] #[] := rfl
  rw [hrd]
  have hf : formsF x = some (formV nm 1) := by rw [formsF_of, hx]; rfl
  have HF := Lib.hid hf
  clear hf hx hrd
  go_enter Tryz.func106, Tryz.ntmps106
  go_wp2_with fail
  refine (forms_any _).mono ?_
  rintro e w1 ⟨rfl, hm, hb⟩
  have hlk := hm.lookup keyB Tryz.underlying237 zero_form x true
  rw [HF.out] at hlk
  simp only [World.size_alloc] at hlk
  have hlk2 : (Instr.lookup 237 (.map (some (w.heap.size + 1 + 1))) (.int .u8 x) true).run Tryz.prog w1 = .ok (.tuple #[.agg #[.string nm, .int .i64 1, .nilFunc], .bool true]) w1 := hlk
  clear hlk
  have hb0 : Below w.heap.size w w1 := (((Below.refl _ _).alloc (Nat.le_refl _) _).alloc (by simp) _).trans (hb.mono (by simp; omega))
  have hz1 := hb.size
  have hr0 := ((Blk.new w 198 #[.string ByteArray.empty, .int .i64 0, .nilFunc]).alloc (.cells #[.func (Fn.func 136) #[] #[], .func (Fn.func 137) #[] #[], .func (Fn.func 138) #[] #[], .func (Fn.func 140) #[] #[]] 236)).below hb (by simp; omega)
  have hr1 := (Blk.new (w.alloc (.cells #[.string ByteArray.empty, .int .i64 0, .nilFunc] 198)) 236 #[.func (Fn.func 136) #[] #[], .func (Fn.func 137) #[] #[], .func (Fn.func 138) #[] #[], .func (Fn.func 140) #[] #[]]).below hb (by simp)
  simp only [World.size_alloc] at hz1 hr1
  have hlt1 : w.heap.size < w1.heap.size := by omega
  have hne1 : w.heap.size ≠ w1.heap.size := by omega
  have hlt2 : w.heap.size + 1 < w1.heap.size := by omega
  have hne2 : w.heap.size + 1 ≠ w1.heap.size := by omega
  have z0 := hr0.frozen 0
  have z1 := hr0.frozen 1
  have z2 := hr0.frozen 2
  have y0 := hr0.cell 0
  have y1 := hr0.cell 1
  have y2 := hr0.cell 2
  have x0 := hr1.cell 1
  have HB := Lib.hid hb0
  clear hm hb hb0 hr0 hr1
  go_wp2_with fail
  exact bodyPost_ret (v := .tuple #[.agg #[.string nm, .int .i64 1, .func (Fn.func 137) #[] #[]], .bool true]) (by simp [results, Tryz.results106, go_sem, *]) rfl ⟨rfl, (((HB.out.setCell (Nat.le_refl _) _).setCell (Nat.le_refl _) _).setCell (Nat.le_refl _) _).alloc (by simp [World.setCell]; omega) _⟩

set_option maxRecDepth 100000 in
set_option maxHeartbeats 1000000 in
theorem of_some2 (x : Int) (nm : ByteArray) (w : World) (hx : formOf x = some (nm, 2)) :
    Calls Tryz.prog 106 #[.int .u8 x] w fun e w' => e = .returned (.tuple #[.agg #[.string nm, .int .i64 2, readerF 2], .bool true]) ∧ Below w.heap.size w w' := by
  have hrd : readerF 2 = .func (Fn.func 138) #[] #[] := rfl
  rw [hrd]
  have hf : formsF x = some (formV nm 2) := by rw [formsF_of, hx]; rfl
  have HF := Lib.hid hf
  clear hf hx hrd
  go_enter Tryz.func106, Tryz.ntmps106
  go_wp2_with fail
  refine (forms_any _).mono ?_
  rintro e w1 ⟨rfl, hm, hb⟩
  have hlk := hm.lookup keyB Tryz.underlying237 zero_form x true
  rw [HF.out] at hlk
  simp only [World.size_alloc] at hlk
  have hlk2 : (Instr.lookup 237 (.map (some (w.heap.size + 1 + 1))) (.int .u8 x) true).run Tryz.prog w1 = .ok (.tuple #[.agg #[.string nm, .int .i64 2, .nilFunc], .bool true]) w1 := hlk
  clear hlk
  have hb0 : Below w.heap.size w w1 := (((Below.refl _ _).alloc (Nat.le_refl _) _).alloc (by simp) _).trans (hb.mono (by simp; omega))
  have hz1 := hb.size
  have hr0 := ((Blk.new w 198 #[.string ByteArray.empty, .int .i64 0, .nilFunc]).alloc (.cells #[.func (Fn.func 136) #[] #[], .func (Fn.func 137) #[] #[], .func (Fn.func 138) #[] #[], .func (Fn.func 140) #[] #[]] 236)).below hb (by simp; omega)
  have hr1 := (Blk.new (w.alloc (.cells #[.string ByteArray.empty, .int .i64 0, .nilFunc] 198)) 236 #[.func (Fn.func 136) #[] #[], .func (Fn.func 137) #[] #[], .func (Fn.func 138) #[] #[], .func (Fn.func 140) #[] #[]]).below hb (by simp)
  simp only [World.size_alloc] at hz1 hr1
  have hlt1 : w.heap.size < w1.heap.size := by omega
  have hne1 : w.heap.size ≠ w1.heap.size := by omega
  have hlt2 : w.heap.size + 1 < w1.heap.size := by omega
  have hne2 : w.heap.size + 1 ≠ w1.heap.size := by omega
  have z0 := hr0.frozen 0
  have z1 := hr0.frozen 1
  have z2 := hr0.frozen 2
  have y0 := hr0.cell 0
  have y1 := hr0.cell 1
  have y2 := hr0.cell 2
  have x0 := hr1.cell 2
  have HB := Lib.hid hb0
  clear hm hb hb0 hr0 hr1
  go_wp2_with fail
  exact bodyPost_ret (v := .tuple #[.agg #[.string nm, .int .i64 2, .func (Fn.func 138) #[] #[]], .bool true]) (by simp [results, Tryz.results106, go_sem, *]) rfl ⟨rfl, (((HB.out.setCell (Nat.le_refl _) _).setCell (Nat.le_refl _) _).setCell (Nat.le_refl _) _).alloc (by simp [World.setCell]; omega) _⟩

set_option maxRecDepth 100000 in
set_option maxHeartbeats 1000000 in
theorem of_some3 (x : Int) (nm : ByteArray) (w : World) (hx : formOf x = some (nm, 3)) :
    Calls Tryz.prog 106 #[.int .u8 x] w fun e w' => e = .returned (.tuple #[.agg #[.string nm, .int .i64 3, readerF 3], .bool true]) ∧ Below w.heap.size w w' := by
  have hrd : readerF 3 = .func (Fn.func 140) #[] #[] := rfl
  rw [hrd]
  have hf : formsF x = some (formV nm 3) := by rw [formsF_of, hx]; rfl
  have HF := Lib.hid hf
  clear hf hx hrd
  go_enter Tryz.func106, Tryz.ntmps106
  go_wp2_with fail
  refine (forms_any _).mono ?_
  rintro e w1 ⟨rfl, hm, hb⟩
  have hlk := hm.lookup keyB Tryz.underlying237 zero_form x true
  rw [HF.out] at hlk
  simp only [World.size_alloc] at hlk
  have hlk2 : (Instr.lookup 237 (.map (some (w.heap.size + 1 + 1))) (.int .u8 x) true).run Tryz.prog w1 = .ok (.tuple #[.agg #[.string nm, .int .i64 3, .nilFunc], .bool true]) w1 := hlk
  clear hlk
  have hb0 : Below w.heap.size w w1 := (((Below.refl _ _).alloc (Nat.le_refl _) _).alloc (by simp) _).trans (hb.mono (by simp; omega))
  have hz1 := hb.size
  have hr0 := ((Blk.new w 198 #[.string ByteArray.empty, .int .i64 0, .nilFunc]).alloc (.cells #[.func (Fn.func 136) #[] #[], .func (Fn.func 137) #[] #[], .func (Fn.func 138) #[] #[], .func (Fn.func 140) #[] #[]] 236)).below hb (by simp; omega)
  have hr1 := (Blk.new (w.alloc (.cells #[.string ByteArray.empty, .int .i64 0, .nilFunc] 198)) 236 #[.func (Fn.func 136) #[] #[], .func (Fn.func 137) #[] #[], .func (Fn.func 138) #[] #[], .func (Fn.func 140) #[] #[]]).below hb (by simp)
  simp only [World.size_alloc] at hz1 hr1
  have hlt1 : w.heap.size < w1.heap.size := by omega
  have hne1 : w.heap.size ≠ w1.heap.size := by omega
  have hlt2 : w.heap.size + 1 < w1.heap.size := by omega
  have hne2 : w.heap.size + 1 ≠ w1.heap.size := by omega
  have z0 := hr0.frozen 0
  have z1 := hr0.frozen 1
  have z2 := hr0.frozen 2
  have y0 := hr0.cell 0
  have y1 := hr0.cell 1
  have y2 := hr0.cell 2
  have x0 := hr1.cell 3
  have HB := Lib.hid hb0
  clear hm hb hb0 hr0 hr1
  go_wp2_with fail
  exact bodyPost_ret (v := .tuple #[.agg #[.string nm, .int .i64 3, .func (Fn.func 140) #[] #[]], .bool true]) (by simp [results, Tryz.results106, go_sem, *]) rfl ⟨rfl, (((HB.out.setCell (Nat.le_refl _) _).setCell (Nat.le_refl _) _).setCell (Nat.le_refl _) _).alloc (by simp [World.setCell]; omega) _⟩
end Go.Proofs.YtabpheanbomibaaGreatDoor
