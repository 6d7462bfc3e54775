/- verify.Code, whole. -/
import Derived.Test.YtggibiodeecljaaVerT
import Derived.Test.YtggibiodeecljaaVer11
namespace Go.Proofs.Ytggibiodeecljaa
open Go.RowKit
set_option linter.unusedVariables false

section
variable (w : World) (BA SA : Option Addr) (b slots : List Int) (bc sc : Nat) (ints texts : Int)
/-- What Code answers. -/
def CodeEnd (w w' : World) (e : Ending) (T : AnsV) : Prop := ∃ v, e = .returned (.tuple #[v, .int .i64 T.2.1, .agg #[.int .i64 T.2.2.1, .int .i64 T.2.2.2, .int .i64 0, .int .i64 0]]) ∧ ShapesAt w' w.heap.size v T.1 ∧ (T.2.2.1 ≠ 0 → v = .slice none 0 0) ∧ Below w.heap.size w w'
set_option maxRecDepth 100000 in
set_option maxHeartbeats 16000000 in
theorem code_good (hbt : BytesAt w BA b) (hbc : b.length ≤ bc) (hs : slots.length ≤ 281474976710656) (hS : SmallsAt w SA slots) (hl : limitsV b slots ints texts = 0) :
    Calls Try.prog 30 #[.slice BA b.length bc, .slice SA slots.length sc, .int .i64 ints, .int .i64 texts] w fun e w' => CodeEnd w w' e (codeV b slots ints texts) := by
  obtain ⟨p1, p2, p3, p4, p5, p6, p7, p8, p9, p10, p11⟩ := limits_pos hl
  have hlm := fun wx (hx : Below w.heap.size w wx) => limits_any BA SA b slots bc sc ints texts wx (by omega) hs (hS.below hx)
  simp only [hl] at hlm
  obtain ⟨T, hT⟩ : ∃ T, codeV b slots ints texts = T := ⟨_, rfl⟩
  have hT2 := codeV_read b slots ints texts hl
  rw [hT] at hT2 ⊢
  have hins := fun l (h : readV b slots ints texts = .inl l) => readV_ok hbt.byte h
  have hread := fun (W6 : World) (kb ib sb hb : Nat) h1 h2 h3 h4 h5 => vreadI_any w W6 kb ib sb hb BA SA b slots bc sc ints texts h1 h2 h3 h4 hbt hS h5 p1 hbc (by omega)
  have hsx : ∀ wx, Below w.heap.size w wx → SmallsAt wx SA slots := fun wx h => hS.below h
  have hlook := fun (wx : World) (kb ib sb hb : Nat) (l : List Ins) (v : VS) (x : Ins) hV hS hx0 hxn hB hat hat2 hsl hh h0 hc => look_any wx w.heap.size kb ib sb hb BA SA b.length bc sc slots ints texts l v x hV hS (by omega) hx0 hxn p1 hB hat hat2 hsl hh h0 hc
  obtain ⟨n, hn⟩ : ∃ n, b.length = n := ⟨_, rfl⟩
  obtain ⟨ns, hns⟩ : ∃ n, slots.length = n := ⟨_, rfl⟩
  obtain ⟨B, hBe⟩ : ∃ B, w.heap.size = B := ⟨_, rfl⟩
  unfold CodeEnd
  rw [hn, hns] at hlm hread hlook ⊢
  rw [hn] at hT2 hins p1 p11
  rw [hBe] at hlm hread hsx hlook ⊢
  have HL := Lib.hid hlm
  have HRD := Lib.hid hread
  have HLK := Lib.hid hlook
  have HT := Lib.hid hT2
  have HI := Lib.hid hins
  have HSX := Lib.hid hsx
  have HN := Lib.hid hn
  clear hlm hS hl hn hns hread hlook hT2 hT hins hsx hbt
  go_enter Try.func30, Try.ntmps30
  go_wp2_with fail
  refine (HL.out _ (by rw [← hBe]; exact (Below.refl _ _).alloc (Nat.le_refl _) _)).mono ?_
  rintro e w1 ⟨rfl, rfl⟩
  have hmm := @run_makeMap Try.prog
  obtain ⟨W1, hW1⟩ : ∃ W1, W1 = w.alloc (.cells #[.int .i64 0, .int .i64 0, .int .i64 0, .int .i64 0] 64) := ⟨_, rfl⟩
  have hB1 : Below B w W1 := by rw [hW1, ← hBe]; exact (Below.refl _ _).alloc (Nat.le_refl _) _
  have hg1 : Blk W1 B 64 #[.int .i64 0, .int .i64 0, .int .i64 0, .int .i64 0] := by rw [hW1, ← hBe]; exact Blk.new _ _ _
  have hz1 : W1.heap.size = B + 1 := by rw [hW1, World.size_alloc, hBe]
  rw [← hW1]
  have m0 := MK.made keyI (W1.alloc (.map #[] 0))
  rw [World.size_alloc] at m0
  obtain ⟨W4, hr4, m4, g4⟩ := m0.update keyI Try.underlying114 (0 : Int) (.slice none 0 0)
  have hr5 : (Instr.mapUpdate 114 (.map (some (W1.heap.size + 1))) (.int .i64 0) (.slice none 0 0)).run Try.prog ((W1.alloc (.map #[] 0)).alloc (.map #[] 0)) = .ok () W4 := hr4
  have hv6 := VAt.start (B := B) (bv := .slice BA n bc) (sv := .slice SA ns sc) (ints := ints) (texts := texts) (by omega) m4 g4
  have hz4 := g4.size
  simp only [World.size_alloc] at hz4
  have hB4 : Below B w W4 := (hB1.alloc (by omega) (.map #[] 0)).alloc (by simp; omega) (.map #[] 0) |>.trans ⟨g4.os, g4.tape, g4.output, g4.size, fun i hi => g4.block i (by simp; omega) (by simp; omega)⟩
  have hg4 : Blk W4 B 64 #[.int .i64 0, .int .i64 0, .int .i64 0, .int .i64 0] := ((hg1.alloc _).alloc _).grown g4 (by simp; omega)
  have HV6 := Lib.hid hv6
  have HB4 := Lib.hid hB4
  have HG4 := Lib.hid hg4
  have HZ1 := Lib.hid hz1
  have HZ4 := Lib.hid hz4
  clear hW1 m4 g4 m0 hr4 hv6 hB4 hg4 hB1 hg1 hz1 hz4
  go_wp2_with fail
  refine (newheap_any _).mono ?_
  rintro e w2 ⟨rfl, rfl⟩
  go_wp2_with fail
  have hv := HV6.out
  obtain ⟨W6, hW6⟩ : ∃ W6, W6 = (W4.alloc (.cells #[.func (.func 69) #[] #[], .slice none 0 0, .int .i64 0] 167)).alloc (.cells #[.slice BA n bc, .slice SA ns sc, .int .i64 ints, .int .i64 texts, .map (some W1.heap.size), .map (some (W1.heap.size + 1)), .pointer (some ⟨W4.heap.size, 0, none⟩)] 119) := ⟨_, rfl⟩
  have hB6 : Below B w W6 := by rw [hW6]; exact (HB4.out.alloc (by have := HZ4.out; have := HZ1.out; omega) _).alloc (by have := HZ4.out; have := HZ1.out; simp; omega) _
  have hg6 : Blk W6 B 64 #[.int .i64 0, .int .i64 0, .int .i64 0, .int .i64 0] := by rw [hW6]; exact (HG4.out.alloc _).alloc _
  rw [← hW6] at hv ⊢
  obtain ⟨kb, hkb⟩ : ∃ k, k = W4.heap.size + 1 := ⟨_, rfl⟩
  obtain ⟨hb, hhb⟩ : ∃ k, k = W4.heap.size := ⟨_, rfl⟩
  obtain ⟨ib, hib⟩ : ∃ k, k = W1.heap.size := ⟨_, rfl⟩
  obtain ⟨sb, hsb⟩ : ∃ k, k = W1.heap.size + 1 := ⟨_, rfl⟩
  rw [← hkb, ← hsb, ← hhb, ← hib] at hv
  rw [← hkb]
  have hz4 := HZ4.out
  have hz1 := HZ1.out
  have hzW6 : kb < W6.heap.size := hv.ck.lt
  have HV := Lib.hid hv
  have hrd := HRD.out W6 kb ib sb hb hB6 hv.ck hv.hkb hv.hib (hv.ins.congr keyI (fun _ => rfl))
  have HRD2 := Lib.hid hrd
  have HB6 := Lib.hid hB6
  have HG6 := Lib.hid hg6
  clear hv hrd hB6 hg6 hW6 HV6 HB4 HG4 HRD hr5 hkb hsb hhb hib hz4 hz1 HZ1 HZ4 hmm
  refine HRD2.out.mono ?_
  rintro e w7 ⟨v7, rfl, hok, hf7⟩
  have hk7 := HV.out.ck.frm hf7.frm
  have hh7 : HeapAt w7 B hb [] 0 := HV.out.heap.keep hf7.frm
  have hkB := HV.out.hkb
  have hg7 := hf7.frm.blk HG6.out (by simp)
  have hB7 := HB6.out.trans hf7.below
  have hz7 := hf7.size
  have k6 : w7.cell? ⟨kb, 6, none⟩ = some (.pointer (some ⟨hb, 0, none⟩)) := Blk.cell hk7 6
  have hb5 := (Below.refl w7.heap.size w7).alloc (Nat.le_refl _) (.cells #[.int .i64 0] 3)
  have hput := put_any (w7.alloc (.cells #[.int .i64 0] 3)) 0 w7.heap.size (hh7.below hb5) ((Blk.new w7 3 #[.int .i64 0]).cell 0) (by simp) (by simp; omega) (by simp) (by omega) (by omega)
  obtain ⟨rv, hrv⟩ : ∃ r, readV b slots ints texts = r := ⟨_, rfl⟩
  rw [hrv] at hok
  have ht := HT.out
  rw [hrv] at ht
  have hi := HI.out
  rw [hrv] at hi
  have hst := start_of (b := b) (slots := slots) (T := T) (rv := rv) HV.out hok hf7 (by rw [HN.out]; exact ht) (by rw [HN.out]; exact hi)
  rw [HN.out] at hst
  have HST := Lib.hid hst
  have HP := Lib.hid hput
  have HG7 := Lib.hid hg7
  have HK7 := Lib.hid hk7
  have HB7 := Lib.hid hB7
  clear hst hput hg7 hk7 hB7 hok ht hi hh7 hb5 hrv HT HI HRD2 hf7
  have hBz7 : B ≤ w7.heap.size := by have := HV.out.hkb; omega
  go_wp2_with fail
  refine HP.out.mono ?_
  rintro e w9 ⟨rfl, hh9, hf9⟩
  have htr := TR.start HST.out _ hh9 hf9 hBz7 (by omega)
  have hg9 := hf9.frm.blk (HG7.out.alloc (.cells #[.int .i64 0] 3)) (by decide)
  have hB9 : Below B w w9 := (HB7.out.alloc hBz7 _).trans hf9.frm.below
  have hBz9 : B < w9.heap.size := hg9.lt
  have HTR := Lib.hid htr
  have HG9 := Lib.hid hg9
  have HB9 := Lib.hid hB9
  clear htr hg9 hB9 hh9 hf9 HST HP HG7 HK7 HB7
  go_wp2_with fail
  go_loopw [13, 14, 15] (fun v13 _ _ wr => ∃ m, TR B w9 wr kb ib sb hb (.slice BA n bc) (.slice SA ns sc) ints texts slots n T v13 m) (fun v13 _ _ wr => least fun m => TR B w9 wr kb ib sb hb (.slice BA n bc) (.slice SA ns sc) ints texts slots n T v13 m)
  case atStart => exact ⟨_, HTR.out⟩
  case round =>
    have hsp := least_spec hrel
    obtain ⟨m, hm⟩ : ∃ m, m = least (TR B w9 wr kb ib sb hb (.slice BA n bc) (.slice SA ns sc) ints texts slots n T u13) := ⟨_, rfl⟩
    rw [← hm] at hsp
    obtain ⟨⟨res, hfa, hla, hfr⟩, _⟩ := hsp
    have HM := Lib.hid hm
    have HFR := Lib.hid hfr
    clear hrel hm hfr
    have hgr := HFR.out.blk HG9.out (by decide)
    have hBr := HB9.out.trans HFR.out.below
    have hBz : B < wr.heap.size := hgr.lt
    cases res with
    | some p =>
      obtain ⟨e0, o0⟩ := p
      obtain ⟨fb, rfl, hfb, hblk⟩ := hfa
      have hT : T = ([], 0, e0, o0) := hla
      have hne : fb ≠ B := hblk.ne_ hgr (by decide)
      have f0 := hblk.cell 0
      have f1 := hblk.cell 1
      have f2 := hblk.cell 2
      have f3 := hblk.cell 3
      have g0 := hgr.cell 0
      have g1 := hgr.cell 1
      have g2 := hgr.cell 2
      have g3 := hgr.cell 3
      have z0 := hgr.frozen 0
      have z1 := hgr.frozen 1
      have z2 := hgr.frozen 2
      have z3 := hgr.frozen 3
      have HGR := Lib.hid hgr
      have HBR := Lib.hid hBr
      have HT := Lib.hid hT
      clear hgr hBr hT hla hblk HG9 HB9 HFR HTR HV
      go_wp2_with fail
      refine wp_region_text (by kernel_rfl) (by kernel_rfl) ?_
      go_wp2_with fail
      refine Only.normal ?_
      go_wp2_with fail
      have b0 := HGR.out
      have b1 := b0.set_ 0 (.int .i64 e0)
      have b2 := b1.set_ 1 (.int .i64 o0)
      have b3 := b2.set_ 2 (.int .i64 0)
      have b4 := b3.set_ 3 (.int .i64 0)
      have hfw := (((Frm.refl B [64] wr).set_ (i := 0) b0 (Nat.le_refl _) (by simp) (.int .i64 e0)).set_ (i := 1) b1 (Nat.le_refl _) (by simp) (.int .i64 o0)).set_ (i := 2) b2 (Nat.le_refl _) (by simp) (.int .i64 0) |>.set_ (i := 3) b3 (Nat.le_refl _) (by simp) (.int .i64 0)
      refine bodyPost_ret (results_ttc rfl _ _ B 64 #[.int .i64 e0, .int .i64 o0, .int .i64 0, .int .i64 0] (0, 0) _ rfl b4.drew Try.underlying64 rfl fault_info) rfl ?_
      rw [HT.out]
      exact ⟨_, rfl, ShapesAt.none_ _ _, fun _ => rfl, (HBR.out.trans hfw.below).drew⟩
    | none =>
      obtain rfl : u13 = .pointer none := hfa
      obtain ⟨l, f, v, hV, hO, hmf, hml, hins, hT⟩ := hla
      obtain ⟨st, hp, cm⟩ := v
      have k6 : wr.cell? ⟨kb, 6, none⟩ = some (.pointer (some ⟨hb, 0, none⟩)) := Blk.cell hV.ck 6
      by_cases hh : hp = []
      · subst hh
        have htk := take_none wr hV.heap
        have k5 : wr.cell? ⟨kb, 5, none⟩ = some (.map (some sb)) := Blk.cell hV.ck 5
        obtain ⟨F, hF, hSF⟩ := hV.stk
        obtain ⟨w11, cnt0, hrange, hra, hbe⟩ := hF.range keyI Try.underlying114
        have hT2 : T = (shapesV n st, highV (shapesV n st), 0, 0) := by
          rw [hT]
          cases f with
          | zero => rfl
          | succ f => rw [loopV, if_pos rfl]; rfl
        have hgr2 := hgr.below hbe hgr.lt
        have hBr2 : Below B w w11 := hBr.trans (hbe.mono (by omega))
        have hz11 := hbe.size
        obtain ⟨r, hr⟩ : ∃ r, wr.heap.size = r := ⟨_, rfl⟩
        rw [hr] at hrange hra
        have hBr3 : B < r := by omega
        have hSF2 := hSF.frm (Frm.of_below (T := []) hbe (by omega : B ≤ wr.heap.size)) (by simp)
        have HTK := Lib.hid htk
        have HO := Lib.hid hO
        have HSF := Lib.hid hSF2
        have HRA := Lib.hid hra
        have HT := Lib.hid hT2
        have HG11 := Lib.hid hgr2
        have HB11 := Lib.hid hBr2
        have hB11 : B < w11.heap.size := by omega
        clear htk hO hSF hSF2 hra hT hT2 hgr2 hBr2 hgr hBr hV hF hbe hz11 hr hins hmf hml HG9 HB9 HFR HTR HV HM
        go_wp2_with fail
        refine HTK.out.mono ?_
        rintro e wz ⟨rfl, rfl⟩
        go_wp2_with fail
        go_loopw [8, 9, 16, 17] (fun v8 v9 _ _ wx => ∃ cnt, RR B w11 wx sb r F v8 v9 cnt) (fun v8 v9 _ _ wx => least fun cnt => RR B w11 wx sb r F v8 v9 cnt)
        case atStart => exact ⟨_, [], [], HRA.out, rfl, World.ownsRow_nil _ _ _ _, rfl, Frm.refl _ _ _⟩
        case round =>
          have hsp := least_spec hrel
          obtain ⟨cnt, hm⟩ : ∃ cnt, cnt = least (fun cnt => RR B w11 wr sb r F u8 u9 cnt) := ⟨_, rfl⟩
          rw [← hm] at hsp
          obtain ⟨⟨done, ls, hra, hr2, hown, rfl, hfr⟩, _⟩ := hsp
          have HM := Lib.hid hm
          clear hrel hm
          have hSw := HSF.out.frm hfr (by simp)
          have hlen := rows_len hra hr2 hSw HO.out
          have hgw := hfr.blk HG11.out (by simp)
          have hzw := hfr.size
          obtain ⟨A8, c8, rfl⟩ := own_form hown
          rcases hra.next (P := Try.prog) keyI with ⟨_, hall, hnd, hnx⟩ | ⟨x, val, w2, cnt', hx, hxn, hlt, hra2, hg2, hsz2, hnx, hent⟩
          · have hpos := rows_some hr2 hSw HO.out hall
            obtain ⟨g, rfl⟩ : ∃ g, A8 = some ⟨g, 0, none⟩ := by
              rcases hown.2 with ⟨_, e⟩ | ⟨g, cap, cur, e, _⟩
              · omega
              · injection e with e
                exact ⟨g, e⟩
            have hs := sort_any (w := wr) (g := g) (cap := c8) (B := w11.heap.size) ls.toArray (by simpa using hown) (by simp; omega)
            simp only [List.size_toArray] at hs
            obtain ⟨nl, hnl⟩ : ∃ k, ls.length = k := ⟨_, rfl⟩
            obtain ⟨hi, hhi⟩ : ∃ k, highS ls = k := ⟨_, rfl⟩
            rw [hnl] at hs hlen ⊢
            rw [hhi]
            have HNL := Lib.hid hnl
            have HHI := Lib.hid hhi
            have HS := Lib.hid hs
            have HGW := Lib.hid hgw
            have HBW := Lib.hid (HB11.out.trans hfr.below)
            have HSW := Lib.hid hSw
            have HR2 := Lib.hid hr2
            have HALL := Lib.hid hall
            have HND := Lib.hid hnd
            clear hra hr2 hown hfr hSw hgw hnl hhi hs hall hnd hpos
            go_wp2_with fail
            refine HS.out.mono ?_
            rintro e w7 ⟨rfl, l', hpm, hso, ho7, hf7⟩
            have hg7 := hf7.blk HGW.out (by simp)
            have hz7 := hf7.size
            have g0 := hg7.cell 0
            have g1 := hg7.cell 1
            have g2 := hg7.cell 2
            have g3 := hg7.cell 3
            have z0 := hg7.frozen 0
            have z1 := hg7.frozen 1
            have z2 := hg7.frozen 2
            have z3 := hg7.frozen 3
            have HPM := Lib.hid hpm
            have HSO := Lib.hid hso
            have HO7 := Lib.hid ho7
            have HF7 := Lib.hid hf7
            have HG7 := Lib.hid hg7
            clear hpm hso ho7 hf7 hg7
            go_wp2_with fail
            have b0 := HG7.out
            have b1 := b0.set_ 0 (.int .i64 0)
            have b2 := b1.set_ 1 (.int .i64 0)
            have b3 := b2.set_ 2 (.int .i64 0)
            have b4 := b3.set_ 3 (.int .i64 0)
            have hfw := (((Frm.refl B [64] w7).set_ (i := 0) b0 (Nat.le_refl _) (by simp) (.int .i64 0)).set_ (i := 1) b1 (Nat.le_refl _) (by simp) (.int .i64 0)).set_ (i := 2) b2 (Nat.le_refl _) (by simp) (.int .i64 0) |>.set_ (i := 3) b3 (Nat.le_refl _) (by simp) (.int .i64 0)
            have hst := (HSW.out.frm HF7.out (by simp)).frm hfw (by simp)
            have hrow := hfw.own HO7.out (by simp)
            obtain ⟨hsh, hhigh⟩ := shapes_end HO.out hst HR2.out HALL.out HND.out (by simpa using HPM.out) HSO.out (own_base (by rw [HNL.out]; exact hrow) (by omega : B ≤ w11.heap.size))
            refine bodyPost_ret (results_ttc rfl _ _ B 64 #[.int .i64 0, .int .i64 0, .int .i64 0, .int .i64 0] (0, 0) _ rfl b4 Try.underlying64 rfl fault_info) rfl ?_
            rw [HT.out]
            refine ⟨_, ?_, hsh, fun h => absurd rfl h, (HBW.out.trans (HF7.out.below.mono (by omega))).trans hfw.below⟩
            rw [← hhigh, HHI.out]
            rfl
          · obtain ⟨Ax, kx, cx, rfl, hx0, hx1, hk256⟩ := stk_at hSw HO.out hx
            have hlt11 := HRA.out.lt keyI
            have hrB : B ≤ r := by omega
            have hf2 := hfr.iter hra hrB hg2 (by omega)
            have ho2 := hown.kept hg2 (.inr (by intro e; have := (hown.lt r e).1; omega))
            have HF2 := Lib.hid hf2
            have HO2 := Lib.hid ho2
            have HRA2 := Lib.hid hra2
            have HR2 := Lib.hid hr2
            obtain ⟨nl, hnl⟩ : ∃ k, ls.length = k := ⟨_, rfl⟩
            obtain ⟨hi, hhi⟩ : ∃ k, highS ls = k := ⟨_, rfl⟩
            rw [hnl] at HO2 hlen ⊢
            rw [hhi]
            have HNL := Lib.hid hnl
            have HHI := Lib.hid hhi
            have HX := Lib.hid hx
            have hz2 := hg2.size
            have HSZ2 := Lib.hid hsz2
            clear hra hr2 hown hfr hSw hgw hf2 ho2 hra2 hg2 hnl hhi hx hxn hsz2
            have hnx' : ∀ ty, (Instr.next (.pointer (some ⟨r, 0, none⟩)) false ty).run Try.prog wr = .ok (.tuple #[.bool true, .int .i64 x, .slice Ax kx cx]) w2 := hnx
            have hent' : (Instr.entry (.pointer (some ⟨r, 0, none⟩))).run Try.prog w2 = .ok (.tuple #[.int .i64 x, .slice Ax kx cx]) w2 := hent
            clear hnx hent
            go_wp2_with (at_builtin; go_loud (refine wpList_append1 shape_el rfl _ _ rfl w11.heap.size w2 [.int .i64 x, .slice Ax kx cx] rfl _ _ _ rfl HO2.out rfl rfl (by simp [Value.oneCell']) (by unfold maxLen; omega) (by omega) (by omega) ?_; intro v8 w7 hown7 hg7; have HO7 := Lib.hid hown7; have HG7 := Lib.hid hg7; clear hown7 hg7))
            have hgb : ∀ i, i < w11.heap.size → some i ≠ (Value.slice A8 nl c8).ownBlock := fun i hi e => by have := (HO2.out.lt i e.symm).1; omega
            have hra7 := HRA2.out.kept keyI (HG7.out.block sb (by omega) (hgb sb hlt11.1)) (HG7.out.block r (by omega) (hgb r hlt11.2.1))
            have hf7 := HF2.out.grownNew HO2.out HG7.out (Nat.le_refl _) (by omega)
            have hrr : ∀ q : Int, q = max hi (kx : Int) → RR B w11 w7 sb r F v8 (.int .i64 q) cnt' := fun q hq => by
              refine ⟨done ++ [(x, .slice Ax kx cx)], ls ++ [⟨x, Ax, kx, cx, ⟨hx0, by omega⟩⟩], hra7, ?_, ?_, ?_, hf7⟩
              · unfold Rows2
                rw [List.map_append, ← HR2.out]
                rfl
              · rw [shVals_snoc, List.length_append, HNL.out]
                exact HO7.out
              · rw [highS_snoc, HHI.out, hq]
            have HRR := Lib.hid hrr
            clear hrr hra7 hf7 hgb
            go_wp2_with fail
            all_goals
              go_roundw
              case rel => exact ⟨cnt', HRR.out _ (by omega)⟩
              case measure => exact least_lt (by have h := HM.out; rw [HNL.out, HHI.out] at h; exact h) (HRR.out _ (by omega)) hlt
      · have hne : hp ≠ [] := hh
        obtain ⟨nh, hnh⟩ : ∃ k, hp.length = k + 1 := ⟨hp.length - 1, by cases hp with | nil => exact absurd rfl hne | cons a r => simp⟩
        obtain ⟨hv2, hm1, ha0, ha1⟩ := hO.take hne
        have hcnt := hO.cnt
        simp only at hcnt ha0 ha1
        have hhp : HeapAt wr B hb hp cm := hV.heap
        have htk := take_some wr nh hhp hnh (by omega)
        have hat := at_ok hins p11 (atH hp 0).1
        obtain ⟨o, ho⟩ : ∃ o, (atH hp 0).1 = o := ⟨_, rfl⟩
        obtain ⟨x, hx⟩ : ∃ x, (insAt l o).getD ins0 = x := ⟨_, rfl⟩
        have hstep := fun (w3 : World) (r : Value) h1 h2 h3 => TR.step (W8 := w9) (w3 := w3) (r := r) (B := B) (kb := kb) (ib := ib) (sb := sb) (hb := hb) (bv := .slice BA n bc) (sv := .slice SA ns sc) p11 hO hne hmf hml hins hT h1 h2 h3
        rw [ho] at htk hat hstep ha0 ha1
        rw [hx] at hat hstep
        have HTK := Lib.hid htk
        have HAT := Lib.hid hat
        have HST := Lib.hid hstep
        have HV2 := Lib.hid hv2
        have HVA := Lib.hid hV
        have HX := Lib.hid hx
        have HBR := Lib.hid hBr
        clear htk hat hstep hv2 hV hx ho hhp hgr hBr hO hins hT hne hh
        go_wp2_with fail
        refine HTK.out.mono ?_
        rintro e w2 ⟨rfl, hh2, hf2⟩
        have hva2 := HVA.out.put hf2 hh2
        have k4 : w2.cell? ⟨kb, 4, none⟩ = some (.map (some ib)) := Blk.cell hva2.ck 4
        have hlk := hva2.ins.lookup keyI Try.underlying113 zero_insV o false
        rw [insF_at, HX.out] at hlk
        have hlk2 : (Instr.lookup 113 (.map (some ib)) (.int .i64 o) false).run Try.prog w2 = .ok (.agg x.cells) w2 := hlk
        have hz2 := hf2.size
        have hlook := HLK.out w2 kb ib sb hb l ⟨st, takeH hp, cm⟩ x hva2 (fun wx h => HSX.out wx ((HBR.out.trans hf2.frm.below).trans (h.mono (by omega)))) HAT.out.a0 HAT.out.num (by omega) HAT.out.at0 (by have := HAT.out.lt; omega) HV2.out.high (by show (takeH hp).length ≤ 100000; rw [takeH_len]; omega) HV2.out.came0 (by have := HV2.out.came; omega)
        have HLO := Lib.hid hlook
        have HF2 := Lib.hid (HFR.out.trans hf2.frm)
        clear hva2 hlk hlook hh2 hf2
        go_wp2_with fail
        refine HLO.out.mono ?_
        rintro e w3 ⟨r, rfl, hfa, hva, hfr⟩
        have hrr := HST.out w3 r hfa hva (HF2.out.trans hfr)
        have HRR := Lib.hid hrr
        clear hfa hva hfr hrr
        go_wp2_with fail
        go_roundw
        case rel => exact ⟨_, HRR.out⟩
        case measure => exact least_lt HM.out HRR.out (by omega)
theorem code_any (hbt : BytesAt w BA b) (hbc : b.length ≤ bc) (hb : b.length ≤ 281474976710656) (hs : slots.length ≤ 281474976710656) (hS : SmallsAt w SA slots) :
    Calls Try.prog 30 #[.slice BA b.length bc, .slice SA slots.length sc, .int .i64 ints, .int .i64 texts] w fun e w' => CodeEnd w w' e (codeV b slots ints texts) := by
  by_cases hl : limitsV b slots ints texts = 0
  · exact code_good w BA SA b slots bc sc ints texts hbt hbc hs hS hl
  · refine (code_bad w BA SA b slots bc sc ints texts hb hs hS hl).mono ?_
    rintro e w' ⟨rfl, hbl⟩
    have hT : codeV b slots ints texts = ([], 0, limitsV b slots ints texts, 0) := by unfold codeV; rw [if_pos hl]
    rw [hT]
    exact ⟨_, rfl, ShapesAt.none_ _ _, fun _ => rfl, hbl⟩
end
end Go.Proofs.Ytggibiodeecljaa
