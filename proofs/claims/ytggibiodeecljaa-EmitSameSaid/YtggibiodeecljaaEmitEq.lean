/- Law EmitSame: its walk. -/
import Derived.Test.YtggibiodeecljaaMEmitWk
import Derived.Test.YtggibiodeecljaaMRows
namespace Go.Proofs.Ytggibiodeecljaa
open Go.RowKit
set_option linter.unusedVariables false

/-- The places of the first nodes struck. -/
def lowK (k : Nat) (ts : List Node) : List Node := (ts.take k).map Node.low ++ ts.drop k
theorem lowK_at {k i : Nat} {ts : List Node} {x : Node} (h : (lowK k ts)[i]? = some x) : ∃ y, ts[i]? = some y ∧ x = if i < k then y.low else y := by
  unfold lowK at h
  by_cases hik : i < k
  · by_cases hl : i < ts.length
    · rw [List.getElem?_append_left (by simp; omega), List.getElem?_map, List.getElem?_take, if_pos hik] at h
      rw [Option.map_eq_some_iff] at h
      obtain ⟨y, hy, rfl⟩ := h
      exact ⟨y, hy, by rw [if_pos hik]⟩
    · rw [List.getElem?_eq_none (by simp; omega)] at h
      cases h
  · by_cases hl : k ≤ ts.length
    · have e : ((ts.take k).map Node.low).length = k := by simp; omega
      rw [List.getElem?_append_right (by omega), e, List.getElem?_drop] at h
      rw [show k + (i - k) = i by omega] at h
      exact ⟨x, h, by rw [if_neg hik]⟩
    · rw [List.getElem?_eq_none (by simp; omega)] at h
      cases h
theorem at_lowK {k i : Nat} {ts : List Node} {y : Node} (h : ts[i]? = some y) : (lowK k ts)[i]? = some (if i < k then y.low else y) := by
  have hl := (List.getElem?_eq_some_iff.1 h).1
  have hlen : (lowK k ts).length = ts.length := by simp [lowK]; omega
  obtain ⟨x, hx⟩ : ∃ x, (lowK k ts)[i]? = some x := ⟨_, List.getElem?_eq_getElem (by rw [hlen]; exact hl)⟩
  obtain ⟨y', h1, h2⟩ := lowK_at hx
  rw [h] at h1
  injection h1 with h1
  subst h1
  rw [hx, h2]
theorem lowK_zero (ts : List Node) : lowK 0 ts = ts := by simp [lowK]
theorem lowK_all {k : Nat} {ts : List Node} (h : ts.length ≤ k) : lowK k ts = lowT ts := by
  simp [lowK, lowT, List.take_of_length_le h, List.drop_of_length_le h]
theorem lowK_step {w : World} {tb toff k : Nat} {ts : List Node} {cs : Array Value} (h : NodesAt w tb toff (lowK k ts)) (hb : Blk w tb 42 cs) (hk : k < ts.length) :
    NodesAt (w.setCell ⟨tb, toff + k * 7 + 5, none⟩ (.int .i64 0)) tb toff (lowK (k + 1) ts) := by
  intro i x hx j v hv
  obtain ⟨y, hy, hxy⟩ := lowK_at hx
  have hj : j < 7 := by
    have := (List.getElem?_eq_some_iff.1 hv).1
    simpa [Node.cells] using this
  have hold := h i _ (at_lowK (k := k) hy)
  rw [(hb.set_ (toff + k * 7 + 5) (.int .i64 0)).cell]
  by_cases hp : i = k ∧ j = 5
  · obtain ⟨rfl, rfl⟩ := hp
    have ho := hold 5 _ rfl
    rw [hb.cell] at ho
    have hlt := (Array.getElem?_eq_some_iff.1 ho).1
    rw [Array.getElem?_setIfInBounds_self_of_lt hlt]
    rw [if_pos (by omega)] at hxy
    subst hxy
    exact hv
  · rw [Array.getElem?_setIfInBounds_ne (by omega), ← hb.cell]
    refine hold j v ?_
    rw [hxy] at hv
    by_cases hik : i < k
    · rw [if_pos (by omega)] at hv
      rw [if_pos hik]
      exact hv
    · rw [if_neg hik]
      by_cases hik2 : i = k
      · rw [if_pos (by omega)] at hv
        have h5 : j ≠ 5 := fun q => hp ⟨hik2, q⟩
        have : j = 0 ∨ j = 1 ∨ j = 2 ∨ j = 3 ∨ j = 4 ∨ j = 6 := by omega
        rcases this with rfl | rfl | rfl | rfl | rfl | rfl <;> exact hv
      · rw [if_neg (by omega)] at hv
        exact hv

theorem beyond_not {slots : List Int} {ts : List Node} {ints : List Int} {texts : List ByteArray} (h : beyondB slots ts ints texts = false) : slots.length ≤ 16777216 ∧ ts.length ≤ 16777216 ∧ ints.length ≤ 16777216 ∧ texts.length ≤ 16777216 ∧ ∀ x ∈ ts, x.text.size ≤ 1099511627776 := by
  unfold beyondB at h
  simp only [Bool.or_eq_false_iff, decide_eq_false_iff_not] at h
  have h1 := sizeL_ge ts ts.length
  have h2 := sizeX_ge texts texts.length
  have h3 := sizeL_text ts ts.length (by omega)
  exact ⟨by omega, by omega, by omega, by omega, fun x hx => by have := h3 (by omega) x hx; omega⟩

theorem SmallsAt.under {w w' : World} {B : Nat} {A : Option Addr} {l : List Int} (h : SmallsAt w A l) (hb : Below B w w') (hlt : ∀ a, l ≠ [] → A = some a → a.block < B) : SmallsAt w' A l := by
  intro k x hk
  obtain ⟨b, off, h1, h2, h3⟩ := h k x hk
  have h4 : b < B := hlt ⟨b, off, none⟩ (by rintro rfl; simp at hk) h1
  exact ⟨b, off, h1, Nat.lt_of_lt_of_le h2 hb.size, (hb.cell (p := ⟨b, _, none⟩) h4).trans h3⟩
section
variable (on : Int) (SA TA : Option Addr) (slots : List Int) (sc tc : Nat) (wh : Bool) (ts : List Node) (IA XA : Option Addr) (ints : List Int) (texts : List ByteArray) (ic xc : Nat) (MA : Option Addr) (more : List Int) (mc : Nat) (w : World)
set_option maxRecDepth 100000 in
set_option maxHeartbeats 8000000 in
theorem same_any (hl : slots.length ≤ 281474976710656) (ht : ts.length ≤ 281474976710656) (hil : ints.length ≤ 281474976710656) (hxl : texts.length ≤ 281474976710656) (hml : more.length ≤ 281474976710656) (hT : TreeAt w TA ts) (hS : SmallsAt w SA slots) (hI : IntsAt w IA ints) (hX : TextsAt w XA texts) (hM : IntsAt w MA more) (htx : ∀ x ∈ ts, x.text.size ≤ 4611686018427387904) (hxx : ∀ x ∈ texts, x.size ≤ 4611686018427387904) :
    Calls Try.prog 3 #[.agg #[.int .i64 on, .slice SA slots.length sc, .bool wh, .slice TA ts.length tc, .slice IA ints.length ic, .slice XA texts.length xc], .slice MA more.length mc] w fun e w' => e = .returned (.bool true) ∧ Below w.heap.size w w' := by
  obtain ⟨W, hW⟩ : ∃ W, W = w.alloc (.cells #[.int .i64 on, .slice SA slots.length sc, .bool wh, .slice TA ts.length tc, .slice IA ints.length ic, .slice XA texts.length xc] 29) := ⟨_, rfl⟩
  have hBW : Below w.heap.size w W := by rw [hW]; exact (Below.refl _ _).alloc (Nat.le_refl _) _
  have hb0 : Blk W w.heap.size 29 #[.int .i64 on, .slice SA slots.length sc, .bool wh, .slice TA ts.length tc, .slice IA ints.length ic, .slice XA texts.length xc] := by rw [hW]; exact Blk.new _ _ _
  have hby := beyond_any on SA TA slots sc tc wh ts IA XA ints texts ic xc W hl ht hil hxl (hT.below hBW) (hX.below hBW) htx hxx
  have hnb := fun h => beyond_not (slots := slots) (ts := ts) (ints := ints) (texts := texts) h
  obtain ⟨⟨x, er⟩, hr1⟩ : ∃ r, ableE on slots wh ts ints texts = r := ⟨_, rfl⟩
  have hbad := fun (he : er ≠ 0) => ableE_bad hr1 he
  have hgood := fun (h : er = 0) => ableE_same (more := more) [⟨#[109, 111, 114, 101]⟩] (h ▸ hr1)
  have hcp := fun (w' : World) (h1 : slots.length ≤ 16777216) (h2 : ts.length ≤ 16777216) (h : Below w.heap.size w w') => copyAbleO_any on SA TA slots sc tc wh ts w' (by omega) (by omega) (hT.below h) (hS.below h)
  have hcl := fun (w' : World) (h1 : ints.length ≤ 16777216) (h : Below w.heap.size w w') => copyL_any IA ints ints.length ic w' rfl (by omega) (hI.below h)
  have hct := fun (w' : World) (h1 : texts.length ≤ 16777216) (h : Below w.heap.size w w') => copyT_any XA texts texts.length xc w' rfl (by omega) (hX.below h)
  have hab := fun (S2 T2 I2 X2 : Option Addr) (s2 t2 i2 x2 : Nat) (w' : World) (h1 : ints.length ≤ 16777216) (h2 : texts.length ≤ 16777216) (h3 : ∀ y ∈ ts, y.text.size ≤ 1099511627776) (a : IntsAt w' I2 ints) (b : TextsAt w' X2 texts) (c : TreeAt w' T2 ts) (d : SmallsAt w' S2 slots) => eable_any on S2 T2 slots s2 t2 wh ts I2 X2 ints texts i2 x2 w' (by omega) (by omega) a b c d h3
  simp only [hr1] at hab
  have hab2 : er = 0 → ∀ (S2 T2 I2 X2 : Option Addr) (s2 t2 i2 x2 : Nat) (w' : World), ints.length ≤ 16777216 → texts.length ≤ 16777216 → more.length ≤ 16777216 → (∀ y ∈ ts, y.text.size ≤ 1099511627776) → IntsAt w' I2 (ints ++ more) → TextsAt w' X2 (texts ++ [⟨#[109, 111, 114, 101]⟩]) → TreeAt w' T2 (lowT ts) → SmallsAt w' S2 slots →
      Calls Try.prog 11 #[.agg #[.int .i64 ((on + 1) % 5), .slice S2 slots.length s2, .bool wh, .slice T2 ts.length t2], .slice I2 (ints.length + more.length) i2, .slice X2 (texts.length + 1) x2] w' (EOut w' (x, 0)) := by
    intro he S2 T2 I2 X2 s2 t2 i2 x2 w' h1 h2 h3 h4 a b c d
    have h := eable_any ((on + 1) % 5) S2 T2 slots s2 t2 wh (lowT ts) I2 X2 (ints ++ more) (texts ++ [⟨#[109, 111, 114, 101]⟩]) i2 x2 w' (by rw [List.length_append]; omega) (by rw [List.length_append]; simp only [List.length_cons, List.length_nil]; omega) a b c d (fun y hy => by
      obtain ⟨z, hz, rfl⟩ := List.mem_map.1 hy
      exact h4 z hz)
    rw [(hgood he).2.2.2.2, lowT_len, List.length_append, List.length_append] at h
    exact h
  have hMr := fun (w' : World) (h : Below w.heap.size w w') => hM.below h
  obtain ⟨p, hp⟩ : ∃ p, slots.length = p := ⟨_, rfl⟩
  obtain ⟨m, hm⟩ : ∃ m, ts.length = m := ⟨_, rfl⟩
  obtain ⟨ni, hni⟩ : ∃ n, ints.length = n := ⟨_, rfl⟩
  obtain ⟨nx, hnx⟩ : ∃ n, texts.length = n := ⟨_, rfl⟩
  obtain ⟨nm, hnm⟩ : ∃ n, more.length = n := ⟨_, rfl⟩
  simp only [hp, hm, hni, hnx, hnm] at hb0 hW hby hnb hcp hcl hct hab hab2 hgood hml ⊢
  have HW := Lib.hid hW
  have HBY := Lib.hid hby
  have HNB := Lib.hid hnb
  have HBAD := Lib.hid hbad
  have HGOOD := Lib.hid hgood
  have HCP := Lib.hid hcp
  have HCL := Lib.hid hcl
  have HCT := Lib.hid hct
  have HAB := Lib.hid hab
  have HMR := Lib.hid hMr
  have HAB2 := Lib.hid hab2
  have HBW := Lib.hid hBW
  have HK := Lib.hid hb0
  have HP := Lib.hid hp
  have HM_ := Lib.hid hm
  have HNI := Lib.hid hni
  have HNX := Lib.hid hnx
  have HNM := Lib.hid hnm
  clear hW hby hnb hbad hgood hcp hcl hct hab hab2 hMr hBW hb0 hp hm hni hnx hnm hr1 hT hS hI hX hM htx hxx hl ht hil hxl
  go_enter Try.func3, Try.ntmps3
  go_wp2_with fail
  rw [← HW.out]
  have z0 := HK.out.cell 0
  have z1 := HK.out.cell 1
  have z2 := HK.out.cell 2
  have z3 := HK.out.cell 3
  have z4 := HK.out.cell 4
  have z5 := HK.out.cell 5
  go_wp2_with fail
  refine HBY.out.mono ?_
  rintro e w1 ⟨rfl, hb1⟩
  have k1 := HK.out.below hb1 HK.out.lt
  have K1 := Lib.hid k1
  have B1 := Lib.hid (HBW.out.trans (hb1.mono HBW.out.size))
  have sA : w1.drew.cell? ⟨w.heap.size, 0, none⟩ = some (.int .i64 on) ∧ w1.drew.cell? ⟨w.heap.size, 1, none⟩ = some (.slice SA p sc) ∧ w1.drew.cell? ⟨w.heap.size, 2, none⟩ = some (.bool wh) ∧ w1.drew.cell? ⟨w.heap.size, 3, none⟩ = some (.slice TA m tc) ∧ w1.drew.cell? ⟨w.heap.size, 4, none⟩ = some (.slice IA ni ic) ∧ w1.drew.cell? ⟨w.heap.size, 5, none⟩ = some (.slice XA nx xc) := ⟨k1.cell 0, k1.cell 1, k1.cell 2, k1.cell 3, k1.cell 4, k1.cell 5⟩
  clear hb1 k1 z0 z1 z2 z3 z4 z5
  cases hbb : beyondB slots ts ints texts with
  | true =>
    go_wp2_with fail
    go_ret
    exact ⟨rfl, B1.out⟩
  | false =>
  obtain ⟨g1, g2, g3, g4, g5⟩ := HNB.out hbb
  have G5 := Lib.hid g5
  clear hbb g5
  go_wp2_with fail
  refine (long_any _ _).mono ?_
  rintro e w' ⟨rfl, rfl⟩
  by_cases hlm : 16777216 < (nm : Int)
  · have hd : decide (16777216 < (nm : Int)) = true := by simp [hlm]
    rw [hd]
    go_wp2_with fail
    go_ret
    exact ⟨rfl, B1.out⟩
  have hd : decide (16777216 < (nm : Int)) = false := by simp [hlm]
  rw [hd]
  clear hd
  go_wp2_with fail
  go_region_held3 (fun w' => w'.cell? ⟨w.heap.size, 0, none⟩ = some (.int .i64 on) ∧ w'.cell? ⟨w.heap.size, 1, none⟩ = some (.slice SA p sc) ∧ w'.cell? ⟨w.heap.size, 2, none⟩ = some (.bool wh) ∧ w'.cell? ⟨w.heap.size, 3, none⟩ = some (.slice TA m tc) ∧ w'.cell? ⟨w.heap.size, 4, none⟩ = some (.slice IA ni ic) ∧ w'.cell? ⟨w.heap.size, 5, none⟩ = some (.slice XA nx xc)) (first | exact sA | exact sB | exact sC | exact sD | exact sE)
    ((first | (go_at_call 12; refine (HCP.out _ g1 g2 B1.out.drew).mono ?_; rintro e w2 ⟨S2, T2, s2, t2, rfl, hS2, hT2, hb2, hf2, ho2, hp2⟩; have B2 := Lib.hid (B1.out.drew.trans (hb2.mono B1.out.size)); have k2 := K1.out.drew.below hb2 K1.out.lt; have K2 := Lib.hid k2; have HS2 := Lib.hid hS2; have HT2 := Lib.hid hT2; have sB : w2.cell? ⟨w.heap.size, 0, none⟩ = some (.int .i64 on) ∧ w2.cell? ⟨w.heap.size, 1, none⟩ = some (.slice SA p sc) ∧ w2.cell? ⟨w.heap.size, 2, none⟩ = some (.bool wh) ∧ w2.cell? ⟨w.heap.size, 3, none⟩ = some (.slice TA m tc) ∧ w2.cell? ⟨w.heap.size, 4, none⟩ = some (.slice IA ni ic) ∧ w2.cell? ⟨w.heap.size, 5, none⟩ = some (.slice XA nx xc) := ⟨k2.cell 0, k2.cell 1, k2.cell 2, k2.cell 3, k2.cell 4, k2.cell 5⟩; clear hS2 hT2 hb2 hf2 ho2 hp2 k2)
              | (go_at_call 13; refine (HCL.out _ g3 B2.out).mono ?_; rintro e w3 ⟨v3, rfl, ho3, hb3⟩; obtain ⟨A3, c3, rfl⟩ := own_form ho3; have B3 := Lib.hid (B2.out.trans (hb3.mono B2.out.size)); have k3 := K2.out.below hb3 K2.out.lt; have K3 := Lib.hid k3; have HI3 := Lib.hid (own_longs ho3).1; have HS3 := Lib.hid (HS2.out.below hb3); have HT3 := Lib.hid (HT2.out.below hb3); have sC : w3.cell? ⟨w.heap.size, 0, none⟩ = some (.int .i64 on) ∧ w3.cell? ⟨w.heap.size, 1, none⟩ = some (.slice SA p sc) ∧ w3.cell? ⟨w.heap.size, 2, none⟩ = some (.bool wh) ∧ w3.cell? ⟨w.heap.size, 3, none⟩ = some (.slice TA m tc) ∧ w3.cell? ⟨w.heap.size, 4, none⟩ = some (.slice IA ni ic) ∧ w3.cell? ⟨w.heap.size, 5, none⟩ = some (.slice XA nx xc) := ⟨k3.cell 0, k3.cell 1, k3.cell 2, k3.cell 3, k3.cell 4, k3.cell 5⟩; clear ho3 hb3 k3)
              | (go_at_call 14; refine (HCT.out _ g4 B3.out).mono ?_; rintro e w4 ⟨v4, rfl, ho4, hb4⟩; obtain ⟨A4, c4, rfl⟩ := own_form ho4; have B4 := Lib.hid (B3.out.trans (hb4.mono B3.out.size)); have k4 := K3.out.below hb4 K3.out.lt; have K4 := Lib.hid k4; have HX4 := Lib.hid (own_texts ho4).1; have HS4 := Lib.hid (HS3.out.below hb4); have HT4 := Lib.hid (HT3.out.below hb4); have HI4 := Lib.hid (HI3.out.below hb4); have sD : w4.cell? ⟨w.heap.size, 0, none⟩ = some (.int .i64 on) ∧ w4.cell? ⟨w.heap.size, 1, none⟩ = some (.slice SA p sc) ∧ w4.cell? ⟨w.heap.size, 2, none⟩ = some (.bool wh) ∧ w4.cell? ⟨w.heap.size, 3, none⟩ = some (.slice TA m tc) ∧ w4.cell? ⟨w.heap.size, 4, none⟩ = some (.slice IA ni ic) ∧ w4.cell? ⟨w.heap.size, 5, none⟩ = some (.slice XA nx xc) := ⟨k4.cell 0, k4.cell 1, k4.cell 2, k4.cell 3, k4.cell 4, k4.cell 5⟩; clear ho4 hb4 k4)
              | (go_at_call 11; refine (HAB.out S2 T2 A3 A4 s2 t2 c3 c4 _ g3 g4 G5.out HI4.out HX4.out HT4.out HS4.out).mono ?_; rintro e w5 ⟨bv, rfl, ho5, hb5⟩; obtain ⟨A5, c5, rfl⟩ := own_form ho5; have B5 := Lib.hid (B4.out.trans (hb5.mono B4.out.size)); have k5 := K4.out.below hb5 K4.out.lt; have K5 := Lib.hid k5; have U5 := Lib.hid (own_u8 ho5); have sE : w5.cell? ⟨w.heap.size, 0, none⟩ = some (.int .i64 on) ∧ w5.cell? ⟨w.heap.size, 1, none⟩ = some (.slice SA p sc) ∧ w5.cell? ⟨w.heap.size, 2, none⟩ = some (.bool wh) ∧ w5.cell? ⟨w.heap.size, 3, none⟩ = some (.slice TA m tc) ∧ w5.cell? ⟨w.heap.size, 4, none⟩ = some (.slice IA ni ic) ∧ w5.cell? ⟨w.heap.size, 5, none⟩ = some (.slice XA nx xc) := ⟨k5.cell 0, k5.cell 1, k5.cell 2, k5.cell 3, k5.cell 4, k5.cell 5⟩; clear ho5 hb5 k5)))
  clear sA sB sC sD sE HS2 HT2 HS3 HT3 HI3 HS4 HT4 HI4 HX4 B1 B2 B3 B4 K1 K2 K3 K4
  by_cases her : er = 0
  case neg =>
    obtain ⟨rfl, hor⟩ := HBAD.out her
    rcases hor with rfl | rfl
    all_goals
      go_wp2_with fail
      refine (works17_any _).mono ?_
      rintro e w6 ⟨rfl, hb6⟩
      have B6 := Lib.hid (B5.out.trans (hb6.mono B5.out.size))
      clear hb6
      go_wp2_with fail
      go_ret
      exact ⟨rfl, B6.out⟩
  subst her
  obtain ⟨on0, on4, hm0, hxl, hsame⟩ := HGOOD.out rfl
  clear hsame
  have q0 := K5.out.cell 0
  have q1 := K5.out.cell 1
  have q2 := K5.out.cell 2
  have q3 := K5.out.cell 3
  go_wp2_with fail
  refine (HCP.out _ g1 g2 B5.out).mono ?_
  rintro e w6 ⟨S6, T6, s6, t6, rfl, hS6, hT6, hb6, hf6, ho6, hp6⟩
  obtain ⟨tb, toff, rfl, htb, hn6⟩ : ∃ tb toff, T6 = some ⟨tb, toff, none⟩ ∧ tb < w6.heap.size ∧ NodesAt w6 tb toff ts := by
    rcases hT6 with h | h
    · rw [h] at HM_; have := HM_.out; simp at this; omega
    · exact h
  obtain ⟨cs6, hcs6⟩ := ho6 tb toff none rfl
  have hf6' : w5.heap.size ≤ tb := hf6 _ rfl
  obtain ⟨W6, hW6⟩ : ∃ W6, W6 = w6.alloc (.cells #[.int .i64 ((on + 1) % 5), .slice S6 p s6, .bool wh, .slice (some ⟨tb, toff, none⟩) m t6] 25) := ⟨_, rfl⟩
  have hbW : Below w6.heap.size w6 W6 := by rw [hW6]; exact (Below.refl _ _).alloc (Nat.le_refl _) _
  have hkW : Blk W6 w6.heap.size 25 #[.int .i64 ((on + 1) % 5), .slice S6 p s6, .bool wh, .slice (some ⟨tb, toff, none⟩) m t6] := by rw [hW6]; exact Blk.new _ _ _
  have HSU := Lib.hid (fun (wr : World) (h : Below tb W6 wr) => (hS6.below hbW).under h (fun a hn ha => hp6 a _ hn ha rfl))
  have hst : Blk W6 tb 42 cs6 ∧ NodesAt W6 tb toff (lowK 0 ts) := ⟨hcs6.below hbW htb, by rw [lowK_zero]; exact hn6.below hbW htb⟩
  have HST := Lib.hid hst
  have HKW := Lib.hid hkW
  have HBW5 := Lib.hid (hb6.trans (hbW.mono hb6.size))
  have HW6 := Lib.hid hW6
  have hz56 := hb6.size
  clear hS6 hT6 hb6 hf6 ho6 hp6 hn6 hcs6 hbW hkW hst hW6 q0 q1 q2 q3
  go_wp2_with fail
  rw [← HW6.out]
  go_loopw [8] (fun iv wr => ∃ (k : Nat) (cs : Array Value), k ≤ m ∧ iv = .int .i64 k ∧ Hid (Blk wr tb 42 cs ∧ NodesAt wr tb toff (lowK k ts)) ∧ Blk wr w6.heap.size 25 #[.int .i64 ((on + 1) % 5), .slice S6 p s6, .bool wh, .slice (some ⟨tb, toff, none⟩) m t6] ∧ Below tb W6 wr) (fun iv _ => m - (intOf iv).toNat)
  case atStart => exact ⟨0, cs6, by omega, rfl, HST, HKW.out, Below.refl _ _⟩
  case round =>
    obtain ⟨k, cs, hkm, rfl, HN, hkb, hbl⟩ := hrel
    by_cases hlt : k < m
    · obtain ⟨y, hy⟩ : ∃ y, ts[k]? = some y := ⟨_, List.getElem?_eq_getElem (by rw [HM_.out]; exact hlt)⟩
      have y5 := HN.out.2 k _ (at_lowK (k := k) hy) 5 _ rfl
      have f5 := HN.out.1.frozen (toff + k * 7 + 5)
      have hkI : (k : Int) < m := by omega
      have a3 := hkb.cell 3
      have hnx := Lib.hid (And.intro (HN.out.1.set_ (toff + k * 7 + 5) (.int .i64 0)) (lowK_step HN.out.2 HN.out.1 (by rw [HM_.out]; exact hlt)))
      have hkb2 := Lib.hid (hkb.far (p := ⟨tb, toff + k * 7 + 5, none⟩) (by show w6.heap.size ≠ tb; omega) (.int .i64 0))
      have hbl2 := Lib.hid (hbl.setCell (p := ⟨tb, toff + k * 7 + 5, none⟩) (Nat.le_refl _) (.int .i64 0))
      clear hy HN hkb hbl
      go_wp2_with fail
      go_roundw
      case rel => exact ⟨k + 1, _, by omega, by go_num, hnx, hkb2.out, hbl2.out⟩
      case measure => (simp [intOf]; try omega)
    · obtain rfl : k = m := by omega
      have hS8 := HSU.out wr hbl
      have hN8 : NodesAt wr tb toff (lowT ts) := by have := HN.out.2; rwa [lowK_all (by rw [HM_.out]; exact Nat.le_refl _)] at this
      have hb58 := HBW5.out.trans (hbl.mono hf6')
      have hT8 : TreeAt wr (some ⟨tb, toff, none⟩) (lowT ts) := .inr ⟨tb, toff, rfl, HN.out.1.lt, hN8⟩
      have HS8 := Lib.hid hS8
      have HT8 := Lib.hid hT8
      have U8 := Lib.hid (U5.out.below hb58)
      have K8 := Lib.hid (K5.out.below hb58 K5.out.lt)
      have B8 := Lib.hid (B5.out.trans (hb58.mono B5.out.size))
      have HA8 := Lib.hid hkb
      have a3 := hkb.cell 3
      have c4 := K8.out.cell 4
      clear hS8 hN8 hb58 hT8 hkb hbl HN HST HKW HBW5 HSU U5 K5 B5
      go_wp2_with fail
      refine (HCL.out _ g3 B8.out).mono ?_
      rintro e w9 ⟨v9, rfl, ho9, hb9⟩
      obtain ⟨A9, c9, rfl⟩ := own_form ho9
      have hMw := HMR.out w9 (B8.out.trans (hb9.mono B8.out.size))
      obtain ⟨v10, w10, hr10, ho10, hg10⟩ := run_append_any (P := Try.prog) (w := w9) wr.heap.size 26 26 2 long_el (.slice A9 ni c9) ni (intVals ints) ho9 MA nm mc (intVals more) (by simp only [intVals, List.length_map, Nat.mul_one]; exact HNM.out) (fun h0 => by
        obtain ⟨b, off, rfl, hc⟩ := ints_row hMw (by rw [HNM.out]; exact h0)
        exact ⟨_, rfl, hc⟩) (intVals_one more) (by unfold maxLen; omega) (by omega) hb9.size
      obtain ⟨A10, c10, rfl⟩ := own_form ho10
      have hb10 : Below wr.heap.size wr w10 := hb9.grown hg10 hb9.size (fun k hk => (ho9.lt k hk).1)
      have hI10 : IntsAt w10 A10 (ints ++ more) := (own_longs (l := ints ++ more) (by rw [intVals, List.map_append]; exact ho10)).1
      have c5 := (K8.out.below hb10 K8.out.lt).cell 5
      have B10 := Lib.hid (B8.out.trans (hb10.mono B8.out.size))
      have HB10 := Lib.hid hb10
      have HI10 := Lib.hid hI10
      have HR10 := Lib.hid hr10
      clear ho9 hb9 hMw hr10 ho10 hg10 hb10 hI10
      go_wp2_with (at_builtin; go_loud (refine wpList_append_run rfl _ _ 26 rfl _ _ _ _ rfl rfl HR10.out ?_))
      refine (HCT.out _ g4 B10.out).mono ?_
      rintro e w11 ⟨v11, rfl, ho11, hb11⟩
      obtain ⟨A11, c11, rfl⟩ := own_form ho11
      obtain ⟨W12, hW12⟩ : ∃ W, W = w11.alloc (.cells #[.string ⟨#[109, 111, 114, 101]⟩] 9) := ⟨_, rfl⟩
      have hb12 : Below w10.heap.size w10 W12 := by rw [hW12]; exact hb11.alloc hb11.size _
      obtain ⟨v13, w13, hr13, ho13, hg13⟩ := run_append_any (P := Try.prog) (w := W12) w10.heap.size 27 27 9 text_el (.slice A11 nx c11) nx (strVals texts) (by rw [hW12]; exact ho11.alloc _) (some ⟨w11.heap.size, 0, none⟩) 1 1 [.string ⟨#[109, 111, 114, 101]⟩] rfl (fun _ => ⟨_, rfl, fun j u hj => by
        rw [show (⟨w11.heap.size, 0, none⟩ : Addr).add j = ⟨w11.heap.size, 0 + j, none⟩ by unfold Addr.add; split <;> simp_all, Nat.zero_add, hW12, (Blk.new w11 _ _).cell j]
        simpa using hj⟩) (fun u hu => by simp only [List.mem_singleton] at hu; subst hu; rfl) (by unfold maxLen; omega) (by omega) hb12.size
      obtain ⟨A13, c13, rfl⟩ := own_form ho13
      have ho12 : W12.ownsRow w10.heap.size 9 1 (.slice A11 nx c11) nx (strVals texts) := by rw [hW12]; exact ho11.alloc _
      have hb13 : Below w10.heap.size w10 w13 := hb12.grown hg13 hb12.size (fun k hk => (ho12.lt k hk).1)
      have hX13 : TextsAt w13 A13 (texts ++ [⟨#[109, 111, 114, 101]⟩]) := (own_texts (l := texts ++ [⟨#[109, 111, 114, 101]⟩]) (by rw [strVals, List.map_append]; exact ho13)).1
      have hb8 : Below wr.heap.size wr w13 := HB10.out.trans (hb13.mono HB10.out.size)
      have hA13 := HA8.out.below hb8 HA8.out.lt
      have a0 := hA13.cell 0
      have a1 := hA13.cell 1
      have a2 := hA13.cell 2
      have a3' := hA13.cell 3
      have B13 := Lib.hid (B10.out.trans (hb13.mono B10.out.size))
      have hab3 := HAB2.out (by first | rfl | trivial) S6 (some ⟨tb, toff, none⟩) A10 A13 s6 t6 c10 c13 w13 g3 g4 (by omega) G5.out (HI10.out.below hb13) hX13 (HT8.out.below hb8) (HS8.out.below hb8)
      have U13 := Lib.hid (U8.out.below hb8)
      have HAB3 := Lib.hid hab3
      rw [hW12] at hr13
      have HR13 := Lib.hid hr13
      clear ho11 hb11 hW12 hb12 hr13 ho13 hg13 ho12 hb13 hX13 hb8 hA13 hab3 HB10 HI10 HR10 B10 B8 K8 U8 HT8 HS8 HA8 c4 c5 a3
      go_wp2_with (at_builtin; go_loud (refine wpList_append_run rfl _ _ 27 rfl _ _ _ _ rfl rfl HR13.out ?_))
      refine HAB3.out.mono ?_
      rintro e w14 ⟨bv, rfl, ho14, hb14⟩
      obtain ⟨A14, c14, rfl⟩ := own_form ho14
      have hq := eqBytes_any A5 A14 c5 c14 x x w14 (by omega) (by omega) (U13.out.below hb14).weak (own_u8 ho14).weak
      have hd : decide (x = x) = true := by simp
      rw [hd] at hq
      have HQ := Lib.hid hq
      have B14 := Lib.hid (B13.out.trans (hb14.mono B13.out.size))
      clear hq hd ho14 hb14 a0 a1 a2 a3' U13 HAB3 HR13 B13
      go_wp2_with fail
      refine HQ.out.mono ?_
      rintro e w15 ⟨rfl, n15, rfl⟩
      have B15 := Lib.hid (below_drewN B14.out n15)
      go_wp2_with fail
      refine (works17_any _).mono ?_
      rintro e w16 ⟨rfl, hb16⟩
      have B16 := Lib.hid (B15.out.trans (hb16.mono B15.out.size))
      clear hb16
      go_wp2_with fail
      go_ret
      exact ⟨rfl, B16.out⟩
end
end Go.Proofs.Ytggibiodeecljaa
