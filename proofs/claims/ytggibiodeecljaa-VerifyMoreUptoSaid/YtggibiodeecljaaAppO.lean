/- append of a whole row, empty or not, onto a row of the call's own. -/
import Derived.Test.YtggibiodeecljaaBits
namespace Go.Proofs.Ytggibiodeecljaa
open Go.RowKit
set_option linter.unusedVariables false

theorem run_append_zero {P : Program} {w : World} (t ty e : TypeId) (i : TypeInfo) (ht : P.underlying t = some (.slice e)) (hi : P.info? e = some i) (S : Option Addr) (n cap : Nat) (A : Option Addr) (c : Nat) (hnc : n ≤ cap) :
    (Builtin.append_ #[t, t] ty #[.slice S n cap, .slice A 0 c]).run P w = .ok (.slice S n cap) w := by
  cases A <;> cases S <;> simp [Builtin.append_, run_underlying ht, sizeOf, typeInfo, hi, Builtin.lenOf, Builtin.firstCells, loadCells, loadCellsFrom, storeCells, hnc]
theorem run_append_any {P : Program} {w : World} (base : Nat) (t ty e : TypeId) {size bytes : Nat} (E : ElT P t e size bytes) (v : Value) (n : Nat) (xs : List Value) (hown : w.ownsRow base e size v n xs)
    (A : Option Addr) (m c : Nat) (news : List Value) (hl : news.length = m * size) (hsrc : 0 < m → ∃ ad, A = some ad ∧ ∀ j u, news[j]? = some u → w.cell? (ad.add j) = some u) (h1 : ∀ u ∈ news, u.oneCell' = true)
    (h63 : n + m ≤ maxLen) (hbytes : (n + m) * bytes ≤ 140737488355328) (hbase : base ≤ w.heap.size) :
    ∃ v' w', (Builtin.append_ #[t, t] ty #[v, .slice A m c]).run P w = .ok v' w' ∧ w'.ownsRow base e size v' (n + m) (xs ++ news) ∧ w.grownBy w' v.ownBlock := by
  obtain ⟨i, z, hi, hz, hsz, hby, hzc⟩ := E.info
  by_cases h0 : m = 0
  · subst h0
    obtain rfl : news = [] := List.eq_nil_of_length_eq_zero (by simpa using hl)
    obtain ⟨S, cap, rfl, hnc⟩ : ∃ S cap, v = .slice S n cap ∧ n ≤ cap := by
      rcases hown.2 with ⟨rfl, rfl⟩ | ⟨g, cap, cur, rfl, _, _, h, _⟩
      · exact ⟨none, 0, rfl, Nat.le_refl _⟩
      · exact ⟨_, cap, rfl, h⟩
    refine ⟨_, w, run_append_zero t ty e i E.und hi S n cap A c hnc, by simpa using hown, ⟨rfl, rfl, rfl, Nat.le_refl _, fun _ _ _ => rfl⟩⟩
  · obtain ⟨ad, rfl, hc⟩ := hsrc (by omega)
    obtain ⟨v', w', h2, h3, h4, _⟩ := run_append_own (P := P) w base t ty e i z size bytes E.und hi hz hsz hby hzc E.pos v n xs hown ad m c news hl hc h1 h63 hbytes hbase
    exact ⟨v', w', h2, h3, h4⟩
end Go.Proofs.Ytggibiodeecljaa
