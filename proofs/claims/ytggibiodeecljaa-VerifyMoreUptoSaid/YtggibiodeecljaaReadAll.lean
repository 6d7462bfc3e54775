/- code.Read of any bytes. -/
import Derived.Test.YtggibiodeecljaaRead0
import Derived.Test.YtggibiodeecljaaRead1
import Derived.Test.YtggibiodeecljaaRead2
import Derived.Test.YtggibiodeecljaaRead3
import Derived.Test.YtggibiodeecljaaRead4
namespace Go.Proofs.Ytggibiodeecljaa
open Go.RowKit

theorem read_any (A : Option Addr) (l : List Int) (cap : Nat) (at_ : Int) (w : World) (hl : l.length ≤ 1000000) (hcap : l.length ≤ cap) (hb : BytesAt w A l) :
    Calls Try.prog 94 #[.slice A l.length cap, .int .i64 at_] w fun e w' => e = .returned (.tuple #[.agg (readM l at_).1.cells, .int .i64 (readM l at_).2]) ∧ Below w.heap.size w w' := by
  unfold readM
  by_cases h : at_ < 0 ∨ (l.length : Int) ≤ at_
  · rw [if_pos h]
    exact read_out A l.length cap at_ w hl (by omega)
  rw [if_neg h]
  obtain ⟨i, hi⟩ := Int.eq_ofNat_of_zero_le (show 0 ≤ at_ by omega)
  subst hi
  rw [Int.toNat_natCast]
  have hil : i < l.length := by omega
  have hgo : ∀ k, k < l.length → l[k]? = some (l.getD k 0) := fun k hk => by rw [List.getD_eq_getElem?_getD, List.getElem?_eq_getElem hk]; rfl
  obtain ⟨b, off, rfl, hbl, hc⟩ := hb.at_ i _ (hgo i hil)
  have hcell : ∀ k, k < l.length → w.cell? ⟨b, off + k, none⟩ = some (.int .u8 (l.getD k 0)) ∧ 0 ≤ l.getD k 0 ∧ l.getD k 0 ≤ 255 := fun k hk => by
    obtain ⟨b2, off2, e, _, hc2⟩ := hb.at_ k _ (hgo k hk)
    injection e with e
    injection e with e1 e2
    subst e1 e2
    exact ⟨hc2, hb.byte _ (List.mem_of_getElem? (hgo k hk))⟩
  cases hf : formOf (l.getD i 0) with
  | none => exact read_noform b off l.length cap i _ w hl hil hbl hc hf
  | some p =>
    obtain ⟨nm, k⟩ := p
    simp only
    have hk := form_kind hf
    simp only at hk
    rcases hk with rfl | rfl | rfl | rfl
    · have hsz : sizeK 0 = 0 := rfl
      rw [hsz, if_neg (by omega)]
      by_cases hce : i + 1 < cap
      · exact read_yes0 b off l.length cap i _ nm w hl hcap hil hbl hc hf hce
      · exact read_yes4 b off l.length cap i _ nm w hl hcap hil hbl hc hf (by omega)
    · have hsz : sizeK 1 = 1 := rfl
      rw [hsz]
      by_cases hs : (l.length : Int) - i - 1 < 1
      · rw [if_pos hs]
        exact read_cut1 b off l.length cap i _ nm w hl hcap hil hbl hc hf hs
      · rw [if_neg hs]
        obtain ⟨d1, d10, d11⟩ := hcell (i + 1) (by omega)
        exact read_yes1 b off l.length cap i _ nm w hl hcap hil hbl hc hf (by omega) _ d10 d11 d1
    · have hsz : sizeK 2 = 2 := rfl
      rw [hsz]
      by_cases hs : (l.length : Int) - i - 1 < 2
      · rw [if_pos hs]
        exact read_cut2 b off l.length cap i _ nm w hl hcap hil hbl hc hf hs
      · rw [if_neg hs]
        obtain ⟨d1, d10, d11⟩ := hcell (i + 1) (by omega)
        obtain ⟨d2, d20, d21⟩ := hcell (i + 2) (by omega)
        exact read_yes2 b off l.length cap i _ nm w hl hcap hil hbl hc hf (by omega) _ d10 d11 d1 _ d20 d21 d2
    · have hsz : sizeK 3 = 4 := rfl
      rw [hsz]
      by_cases hs : (l.length : Int) - i - 1 < 4
      · rw [if_pos hs]
        exact read_cut3 b off l.length cap i _ nm w hl hcap hil hbl hc hf hs
      · rw [if_neg hs]
        obtain ⟨d1, d10, d11⟩ := hcell (i + 1) (by omega)
        obtain ⟨d2, d20, d21⟩ := hcell (i + 2) (by omega)
        obtain ⟨d3, d30, d31⟩ := hcell (i + 3) (by omega)
        obtain ⟨d4, d40, d41⟩ := hcell (i + 4) (by omega)
        exact read_yes3 b off l.length cap i _ nm w hl hcap hil hbl hc hf (by omega) _ d10 d11 d1 _ d20 d21 d2 _ d30 d31 d3 _ d40 d41 d4
end Go.Proofs.Ytggibiodeecljaa
