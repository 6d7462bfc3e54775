/- OddsWelfords, walked. -/
import Derived.Test.YtocekmgjhdlkgaaGreatDoorWel2
import Derived.Test.YtocekmgjhdlkgaaGreatDoorWel4
namespace Go.Proofs.YtocekmgjhdlkgaaGreatDoor
open Go.RowKit
set_option linter.unusedVariables false

theorem below_fwor {B : Nat} {w W : World} (h : Below B w W) (op : BinOp) (x y : Nat) : Below B w (fwor op x y W) := by
  obtain ⟨n, hn⟩ := fwor_draw op x y W
  rw [hn]
  exact below_drewF h n
theorem blk_fwor {w : World} {b : Nat} {t : TypeId} {cs : Array Value} (h : Blk w b t cs) (op : BinOp) (x y : Nat) : Blk (fwor op x y w) b t cs := by
  obtain ⟨n, hn⟩ := fwor_draw op x y w
  rw [hn]
  exact h.drewN n
theorem same_reps {a b : Nat} {o : Option Nat} (ha : Rep a o) (hb : Rep b o) : ∀ w, Calls Tryz.prog 9 #[.float .f64 a, .float .f64 b] w fun e w' => e = .returned (.bool true) ∧ w = w' := fun w => same_any a b o w ha hb
theorem floatVals_set (M : List Nat) (i v : Nat) : ((floatVals M).toArray).setIfInBounds i (.float .f64 v) = (floatVals (M.set i v)).toArray := by
  unfold floatVals
  rw [List.setIfInBounds_toArray, List.map_set]
set_option maxRecDepth 100000 in
set_option maxHeartbeats 8000000 in
theorem oddsWelfords_any (A : Option Addr) (l : List Nat) (n c : Nat) (w : World) (hn : l.length = n) (hF : FloatsAt w A l) :
    Calls Tryz.prog 3 #[.slice A n c] w fun e w' => e = .returned (.bool true) ∧ Below w.heap.size w w' := by
  by_cases hlong : (16777216 : Int) < n
  · go_enter Tryz.func3, Tryz.ntmps3
    go_wp2_with fail
    refine (long_any _ _).mono ?_
    rintro e w1 ⟨rfl, rfl⟩
    go_wp2_with fail
    go_ret
    exact ⟨rfl, Below.refl _ _⟩
  · have hn1 : n ≤ 16777216 := by omega
    have h1 := wideF_any A l c w (by omega) hF
    rw [hn] at h1
    have H1 := Lib.hid h1
    have HN := Lib.hid hn
    have HF := Lib.hid hF
    clear h1 hF hn
    go_enter Tryz.func3, Tryz.ntmps3
    go_wp2_with fail
    refine (long_any _ _).mono ?_
    rintro e w1 ⟨rfl, rfl⟩
    go_wp2_with fail
    refine H1.out.mono ?_
    rintro e w2 ⟨rfl, hk2, hb2⟩
    have HK2 := Lib.hid hk2
    have HB2 := Lib.hid hb2
    have hin : FloatsAt w2 (some ⟨w.heap.size, 0, none⟩) l := floatsAt_blk hk2 (fun k hk => wideF_left hk)
    have HIN := Lib.hid hin
    have HL := Lib.hid (HF.out.below hb2)
    clear hk2 hb2 hin
    go_wp2_with fail
    refine (welGo_any _ l n _ _ HN.out (by omega) HIN.out).mono ?_
    rintro e w3 ⟨m1, s1, rfl, hm1, hs1, k3, hw3⟩
    have HM1 := Lib.hid hm1
    have HS1 := Lib.hid hs1
    have HW3 := Lib.hid hw3
    have HL3 : Hid (FloatsAt w3 A l) := Lib.hid (by rw [hw3]; exact HL.out)
    clear hm1 hs1 hw3
    go_wp2_with fail
    refine (welRef_any _ l n _ _ HN.out (by omega) HL3.out).mono ?_
    rintro e w4 ⟨m2, s2, rfl, hm2, hs2, k4, hw4⟩
    have HSM := Lib.hid (same_reps HM1.out hm2)
    have HSS := Lib.hid (same_reps HS1.out hs2)
    have HW4 : Hid (w4 = w2.drewN (k3 + k4)) := Lib.hid (by rw [hw4, HW3.out, World.drewN_drewN])
    have HIN4 : Hid (FloatsAt w4 (some ⟨w.heap.size, 0, none⟩) l) := Lib.hid (by rw [HW4.out]; exact HIN.out)
    have HL4 : Hid (FloatsAt w4 A l) := Lib.hid (by rw [HW4.out]; exact HL.out)
    clear hm2 hs2 hw4
    go_wp2_with fail
    refine (HSM.out _).mono ?_
    rintro e w5 ⟨rfl, rfl⟩
    go_wp2_with fail
    refine (HSS.out _).mono ?_
    rintro e w5 ⟨rfl, rfl⟩
    go_wp2_with fail
    have he := eqF_same _ _ l (n + 64) c _ (by have := HN.out; omega) HIN4.out HL4.out
    rw [HN.out] at he
    refine he.mono ?_
    rintro e w6 ⟨rfl, k6, hw6⟩
    clear he
    have HW6 : Hid (w6 = w2.drewN (k3 + k4 + k6)) := Lib.hid (by rw [hw6, HW4.out, World.drewN_drewN])
    clear hw6
    have HK6 : Hid (Blk w6 w.heap.size 25 (floatVals (wideF l)).toArray) := Lib.hid (by rw [HW6.out]; exact HK2.out.drewN _)
    have HB6 : Hid (Below w.heap.size w w6) := Lib.hid (by rw [HW6.out]; exact below_drewF HB2.out _)
    go_wp2_with fail
    have hs := spareF_any w.heap.size l w6 (by have := HN.out; omega) HK6.out
    rw [HN.out] at hs
    refine hs.mono ?_
    rintro e w7 ⟨rfl, rfl⟩
    clear hs
    have hsf := stF
    have q4 := runF.quo
    have c1 := fwor_cell
    have c2 := fwor_size
    have c3 := fwor_frozen
    go_wp2_with fail
    go_loopw [8] (fun iv wr => ∃ (i : Nat) (M : List Nat), i ≤ n ∧ iv = .int .i64 i ∧ Hid (M.length = n + 64) ∧ Hid (Blk wr w.heap.size 25 (floatVals M).toArray) ∧ Hid (Below w.heap.size w wr)) (fun iv _ => n - (intOf iv).toNat)
    case atStart => exact ⟨0, wideF l, by omega, rfl, Lib.hid (by rw [wideF_len, HN.out]), HK6, HB6⟩
    case round =>
      obtain ⟨i, M, hi, rfl, HML, HK, HB⟩ := hrel
      by_cases hlt : i < n
      · have hii : (i : Int) < n := by omega
        obtain ⟨x, hx⟩ : ∃ x, M[i]? = some x := ⟨_, List.getElem?_eq_getElem (by rw [HML.out]; omega)⟩
        have hcell : wr.cell? ⟨w.heap.size, i, none⟩ = some (.float .f64 x) := by
          rw [HK.out.cell i]
          unfold floatVals
          rw [List.getElem?_toArray, List.getElem?_map, hx]
          rfl
        have hfz := HK.out.frozen i
        have hsz := HK.out.lt
        clear hx
        go_wp2_with fail
        go_roundw
        case rel =>
          have hs := (blk_fwor HK.out .quo x 4611686018427387904).set_ i (.float .f64 (fres .quo x 4611686018427387904 wr))
          rw [floatVals_set] at hs
          exact ⟨i + 1, _, by omega, by go_num, Lib.hid (by rw [List.length_set]; exact HML.out), Lib.hid hs, Lib.hid ((below_fwor HB.out _ _ _).setCell (p := ⟨w.heap.size, i, none⟩) (Nat.le_refl _) _)⟩
        case measure => (simp [intOf]; try omega)
      · obtain rfl : i = n := by omega
        have hF2 : FloatsAt wr (some ⟨w.heap.size, 0, none⟩) (M.take i) := floatsAt_blk HK.out (fun k hk => by rw [List.length_take] at hk; rw [List.getElem?_take, if_pos (by omega)])
        have hl2 : (M.take i).length = i := by rw [List.length_take, HML.out]; omega
        have HF2 := Lib.hid hF2
        have HL2 := Lib.hid hl2
        clear hF2 hl2
        go_wp2_with fail
        refine (welGo_any _ (M.take i) i _ _ HL2.out (by omega) HF2.out).mono ?_
        rintro e w8 ⟨m3, s3, rfl, hm3, hs3, k8, hw8⟩
        have HM3 := Lib.hid hm3
        have HS3 := Lib.hid hs3
        have HF8 : Hid (FloatsAt w8 (some ⟨w.heap.size, 0, none⟩) (M.take i)) := Lib.hid (by rw [hw8]; exact HF2.out)
        have HB8 : Hid (Below w.heap.size w w8) := Lib.hid (by rw [hw8]; exact below_drewF HB.out _)
        clear hm3 hs3 hw8
        go_wp2_with fail
        refine (cpF_any _ (M.take i) i _ _ HL2.out (by omega) HF8.out).mono ?_
        rintro e w9 ⟨v9, rfl, ho9, hb9⟩
        obtain ⟨A9, c9, rfl, hF9, _, _⟩ := own_floatV ho9
        have HF9 := Lib.hid hF9
        have HB9 := Lib.hid (HB8.out.trans (hb9.mono HB8.out.size))
        clear ho9 hb9 hF9
        go_wp2_with fail
        refine (welRef_any _ (M.take i) i _ _ HL2.out (by omega) HF9.out).mono ?_
        rintro e w10 ⟨m4, s4, rfl, hm4, hs4, k10, hw10⟩
        have HSM3 := Lib.hid (same_reps HM3.out hm4)
        have HSS3 := Lib.hid (same_reps HS3.out hs4)
        have HB10 : Hid (Below w.heap.size w w10) := Lib.hid (by rw [hw10]; exact below_drewF HB9.out _)
        clear hm4 hs4 hw10
        go_wp2_with fail
        refine (HSM3.out _).mono ?_
        rintro e w5 ⟨rfl, rfl⟩
        go_wp2_with fail
        refine (HSS3.out _).mono ?_
        rintro e w5 ⟨rfl, rfl⟩
        go_wp2_with fail
        refine (works29_any _).mono ?_
        rintro e w11 ⟨rfl, hb11⟩
        have HB11 := Lib.hid (HB10.out.trans (hb11.mono HB10.out.size))
        clear hb11
        go_wp2_with fail
        go_ret
        exact ⟨rfl, HB11.out⟩
end Go.Proofs.YtocekmgjhdlkgaaGreatDoor
