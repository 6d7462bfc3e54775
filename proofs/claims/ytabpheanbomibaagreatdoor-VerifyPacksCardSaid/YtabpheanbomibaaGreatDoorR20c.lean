/- tableauref20.limits. -/
import Derived.Test.YtabpheanbomibaaGreatDoorR20a
namespace Go.Proofs.YtabpheanbomibaaGreatDoor
open Go.RowKit
set_option linter.unusedVariables false

theorem lim_a {b slots : List Int} {ints texts : Int} (h : 65535 < b.length ∨ 32 < slots.length ∨ ints < 0 ∨ 4096 < ints ∨ texts < 0 ∨ 4096 < texts ∨ slots.any badK = true) : limitsV b slots ints texts = 56 := by
  have e : (slots.any fun k => decide (k < 1) || decide (6 < k)) = slots.any badK := rfl
  unfold limitsV
  rw [e]
  cases hq : slots.any badK with
  | true => rw [if_pos (.inr (.inr (.inl rfl)))]
  | false =>
    rw [hq] at h
    rw [if_pos (by
      rcases h with h | h | h | h | h | h | h
      · exact .inl h
      · exact .inr (.inl h)
      · exact .inr (.inr (.inr (.inl h)))
      · exact .inr (.inr (.inr (.inr (.inl h))))
      · exact .inr (.inr (.inr (.inr (.inr (.inl h)))))
      · exact .inr (.inr (.inr (.inr (.inr (.inr h)))))
      · cases h)]
theorem lim_b {b slots : List Int} {ints texts : Int} (h0 : ¬ 65535 < b.length) (h1 : ¬ 32 < slots.length) (h2 : ¬ ints < 0) (h3 : ¬ 4096 < ints) (h4 : ¬ texts < 0) (h5 : ¬ 4096 < texts) (h6 : slots.any badK = false) :
    limitsV b slots ints texts = if slots.length < 2 ∨ slots.getD 0 0 ≠ 3 ∨ slots.getD 1 0 ≠ 4 then 43 else if b.length = 0 then 49 else 0 := by
  have e : (slots.any fun k => decide (k < 1) || decide (6 < k)) = slots.any badK := rfl
  unfold limitsV
  rw [e, h6, if_neg (by simp; omega)]
section
variable (BA SA : Option Addr) (b slots : List Int) (bc sc : Nat) (ints texts : Int) (w : World)
set_option maxRecDepth 100000 in
set_option maxHeartbeats 8000000 in
theorem limits20_any (hb : b.length ≤ 281474976710656) (hs : slots.length ≤ 281474976710656) (hS : SmallsAt w SA slots) :
    Calls Tryz.prog 36 #[.slice BA b.length bc, .slice SA slots.length sc, .int .i64 ints, .int .i64 texts] w fun e w' => e = .returned (.int .i64 (limitsV b slots ints texts)) ∧ w = w' := by
  obtain ⟨R, hR⟩ : ∃ R, R = limitsV b slots ints texts := ⟨_, rfl⟩
  rw [← hR]
  have hz0 : 2 ≤ slots.length → ∃ x, slots[0]? = some x ∧ slots.getD 0 0 = x := fun h => ⟨_, List.getElem?_eq_getElem (by omega), by rw [List.getD_eq_getElem?_getD, List.getElem?_eq_getElem (by omega)]; rfl⟩
  have hz1 : 2 ≤ slots.length → ∃ x, slots[1]? = some x ∧ slots.getD 1 0 = x := fun h => ⟨_, List.getElem?_eq_getElem (by omega), by rw [List.getD_eq_getElem?_getD, List.getElem?_eq_getElem (by omega)]; rfl⟩
  have hla := fun h => lim_a (b := b) (slots := slots) (ints := ints) (texts := texts) h
  have hlb := fun h0 h1 h2 h3 h4 h5 h6 => lim_b (b := b) (slots := slots) (ints := ints) (texts := texts) h0 h1 h2 h3 h4 h5 h6
  rw [← hR] at hla hlb
  obtain ⟨n, hn⟩ : ∃ n, b.length = n := ⟨_, rfl⟩
  obtain ⟨ns, hns⟩ : ∃ n, slots.length = n := ⟨_, rfl⟩
  simp only [hn, hns] at hla hlb hb hs hz0 hz1 ⊢
  have HLA := Lib.hid hla
  have HLB := Lib.hid hlb
  have HS := Lib.hid hS
  have HZ0 := Lib.hid hz0
  have HZ1 := Lib.hid hz1
  have HNS := Lib.hid hns
  clear hR hS hz0 hz1 hn hns hla hlb
  by_cases c0 : 65535 < n
  · have hd0 : decide (65535 < (n : Int)) = true := by simp; omega
    have hr : R = 56 := by exact HLA.out (.inl c0)
    have HR3 := Lib.hid hr
    clear hr
    go_enter Tryz.func36, Tryz.ntmps36
    go_wp2_with fail
    go_ret
    exact ⟨ret_i64 HR3.out.symm, rfl⟩
  have hd0 : decide (65535 < (n : Int)) = false := by simp; omega
  by_cases c1 : 32 < ns
  · have hd1 : decide (32 < (ns : Int)) = true := by simp; omega
    have hr : R = 56 := by exact HLA.out (.inr (.inl c1))
    have HR3 := Lib.hid hr
    clear hr
    go_enter Tryz.func36, Tryz.ntmps36
    go_wp2_with fail
    go_ret
    exact ⟨ret_i64 HR3.out.symm, rfl⟩
  have hd1 : decide (32 < (ns : Int)) = false := by simp; omega
  by_cases c2 : ints < 0
  · have hd2 : decide (ints < 0) = true := by simp; omega
    have hr : R = 56 := by exact HLA.out (.inr (.inr (.inl c2)))
    have HR3 := Lib.hid hr
    clear hr
    go_enter Tryz.func36, Tryz.ntmps36
    go_wp2_with fail
    go_ret
    exact ⟨ret_i64 HR3.out.symm, rfl⟩
  have hd2 : decide (ints < 0) = false := by simp; omega
  by_cases c3 : 4096 < ints
  · have hd3 : decide (4096 < ints) = true := by simp; omega
    have hr : R = 56 := by exact HLA.out (.inr (.inr (.inr (.inl c3))))
    have HR3 := Lib.hid hr
    clear hr
    go_enter Tryz.func36, Tryz.ntmps36
    go_wp2_with fail
    go_ret
    exact ⟨ret_i64 HR3.out.symm, rfl⟩
  have hd3 : decide (4096 < ints) = false := by simp; omega
  by_cases c4 : texts < 0
  · have hd4 : decide (texts < 0) = true := by simp; omega
    have hr : R = 56 := by exact HLA.out (.inr (.inr (.inr (.inr (.inl c4)))))
    have HR3 := Lib.hid hr
    clear hr
    go_enter Tryz.func36, Tryz.ntmps36
    go_wp2_with fail
    go_ret
    exact ⟨ret_i64 HR3.out.symm, rfl⟩
  have hd4 : decide (texts < 0) = false := by simp; omega
  by_cases c5 : 4096 < texts
  · have hd5 : decide (4096 < texts) = true := by simp; omega
    have hr : R = 56 := by exact HLA.out (.inr (.inr (.inr (.inr (.inr (.inl c5))))))
    have HR3 := Lib.hid hr
    clear hr
    go_enter Tryz.func36, Tryz.ntmps36
    go_wp2_with fail
    go_ret
    exact ⟨ret_i64 HR3.out.symm, rfl⟩
  have hd5 : decide (4096 < texts) = false := by simp; omega
  have hl2 := HLB.out c0 c1 c2 c3 c4 c5
  have HL2 := Lib.hid hl2
  clear hl2
  go_enter Tryz.func36, Tryz.ntmps36
  go_wp2_with fail
  go_loop [9] (fun iv => ∃ k : Nat, k ≤ ns ∧ iv = .int .i64 k ∧ Hid ((slots.take k).any badK = false)) (fun iv => ns - (intOf iv).toNat)
  case atStart => exact ⟨0, by omega, rfl, Lib.hid rfl⟩
  case round =>
    obtain ⟨k, hkn, rfl, H⟩ := hrel
    by_cases hlt : k < ns
    · obtain ⟨x, hx⟩ : ∃ x, slots[k]? = some x := ⟨_, List.getElem?_eq_getElem (by rw [HNS.out]; exact hlt)⟩
      obtain ⟨b0, o0, rfl, hb0, hc0⟩ := HS.out k x hx
      have hnx : (slots.take (k + 1)).any badK = badK x := by
        rw [List.take_add_one, hx, List.any_append, H.out]
        simp
      have hmem : x ∈ slots := List.mem_of_getElem? hx
      have hkI : (k : Int) < ns := by omega
      have HNX := Lib.hid hnx
      have HM := Lib.hid hmem
      clear hnx hmem hx
      by_cases q1 : x < 1
      · have e1 : decide (x < 1) = true := by simpa using q1
        have hr : R = 56 := HLA.out (.inr (.inr (.inr (.inr (.inr (.inr (List.any_eq_true.2 ⟨x, HM.out, by unfold badK; rw [e1]; rfl⟩)))))))
        have HR3 := Lib.hid hr
        clear hr
        go_wp2_with fail
        go_ret
        exact ⟨ret_i64 HR3.out.symm, rfl⟩
      have e1 : decide (x < 1) = false := by simpa using q1
      by_cases q2 : 6 < x
      · have e2 : decide (6 < x) = true := by simpa using q2
        have hr : R = 56 := HLA.out (.inr (.inr (.inr (.inr (.inr (.inr (List.any_eq_true.2 ⟨x, HM.out, by unfold badK; rw [e1, e2]; rfl⟩)))))))
        have HR3 := Lib.hid hr
        clear hr
        go_wp2_with fail
        go_ret
        exact ⟨ret_i64 HR3.out.symm, rfl⟩
      have e2 : decide (6 < x) = false := by simpa using q2
      go_wp2_with fail
      go_round
      case rel => exact ⟨k + 1, by omega, by go_num, Lib.hid (by rw [HNX.out]; unfold badK; rw [e1, e2]; rfl)⟩
      case measure => (simp [intOf]; try omega)
    · obtain rfl : k = ns := by omega
      have hr := HL2.out (by have := H.out; rwa [List.take_of_length_le (by rw [HNS.out]; exact Nat.le_refl _)] at this)
      have HR2 := Lib.hid hr
      clear hr
      by_cases s0 : k < 2
      · have d0 : decide ((k : Int) < 2) = true := by simp; omega
        have hr : R = 43 := by rw [HR2.out, if_pos (.inl s0)]
        have HR3 := Lib.hid hr
        clear hr
        go_wp2_with fail
        go_ret
        exact ⟨ret_i64 HR3.out.symm, rfl⟩
      have d0 : decide ((k : Int) < 2) = false := by simp; omega
      obtain ⟨x0, hx0, hg0⟩ := HZ0.out (by omega)
      obtain ⟨x1, hx1, hg1⟩ := HZ1.out (by omega)
      have hr := HR2.out
      rw [hg0, hg1] at hr
      obtain ⟨b0, o0, rfl, hb0, hc0⟩ := HS.out 0 x0 hx0
      obtain ⟨b1, o1, e', hb1, hc1⟩ := HS.out 1 x1 hx1
      obtain ⟨rfl, rfl⟩ : b0 = b1 ∧ o0 = o1 := by injection e' with e'; injection e' with e1 e2; exact ⟨e1, e2⟩
      have HR4 := Lib.hid hr
      have hk2 : (2 : Int) ≤ k := by omega
      have hk1 : (1 : Int) < k := by omega
      have hk0 : (0 : Int) < k := by omega
      rw [Nat.add_zero] at hc0
      clear hr hx0 hg0 hx1 hg1 e'
      by_cases s1 : x0 = 3
      · subst s1
        by_cases s2 : x1 = 4
        · subst s2
          by_cases s3 : n = 0
          · subst s3
            have hr : R = 49 := by rw [HR4.out, if_neg (by omega), if_pos rfl]
            have HR3 := Lib.hid hr
            clear hr
            go_wp2_with fail
            go_ret
            exact ⟨ret_i64 HR3.out.symm, rfl⟩
          · have hr : R = 0 := by rw [HR4.out, if_neg (by omega), if_neg s3]
            have HR3 := Lib.hid hr
            have dn : ((n : Int) == 0) = false := by simp; omega
            clear hr
            go_wp2_with fail
            go_ret
            exact ⟨ret_i64 HR3.out.symm, rfl⟩
        · have d2 : (x1 != 4) = true := by simpa using s2
          have hr : R = 43 := by rw [HR4.out, if_pos (.inr (.inr s2))]
          have HR3 := Lib.hid hr
          clear hr
          go_wp2_with fail
          go_ret
          exact ⟨ret_i64 HR3.out.symm, rfl⟩
      · have d1 : (x0 != 3) = true := by simpa using s1
        have hr : R = 43 := by rw [HR4.out, if_pos (.inr (.inl s1))]
        have HR3 := Lib.hid hr
        clear hr
        go_wp2_with fail
        go_ret
        exact ⟨ret_i64 HR3.out.symm, rfl⟩
end
end Go.Proofs.YtabpheanbomibaaGreatDoor
