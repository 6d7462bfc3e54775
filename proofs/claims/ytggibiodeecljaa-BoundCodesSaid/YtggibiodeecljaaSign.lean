/- check.sign: a sign by its number; one, each: what it costs. -/
import Derived.Test.YtggibiodeecljaaKinds
import Derived.Laws.EntriesVeiled
namespace Go.Proofs.Ytggibiodeecljaa
open Go.RowKit

theorem SignAt.all {w : World} {B b off : Nat} {s : Sign} (h : SignAt w B b off s) : ∃ g, B ≤ g ∧ g < w.heap.size ∧ w.cell? ⟨b, off, none⟩ = some (.string s.name) ∧ w.cell? ⟨b, off + 1, none⟩ = some (.slice (some ⟨g, 0, none⟩) s.args.length s.args.length) ∧
    w.cell? ⟨b, off + 2, none⟩ = some (.int .i8 s.tell) ∧ w.cell? ⟨b, off + 3, none⟩ = some s.fn ∧ Blk w g 40 (s.args.map (Value.int .i8)).toArray := by
  obtain ⟨g, h1, h2, h3, h4⟩ := h
  exact ⟨g, h1, h2, h3 0 _ rfl, h3 1 _ rfl, h3 2 _ rfl, h3 3 _ rfl, h4⟩

theorem sign_out (b len cap : Nat) (n : Int) (w : World) (_hlen : len ≤ 1000) (h : n < 0 ∨ (len : Int) ≤ n) :
    Calls Try.prog 163 #[.slice (some ⟨b, 0, none⟩) len cap, .int .i64 n] w fun e w' => e = .returned (.tuple #[.agg #[.string ByteArray.empty, .slice none 0 0, .int .i8 0, .nilFunc], .bool false]) ∧ Below w.heap.size w w' := by
  by_cases h0 : n < 0
  · go_enter Try.func163, Try.ntmps163
    go_wp2
    exact bodyPost_ret (v := .tuple #[.agg #[.string ByteArray.empty, .slice none 0 0, .int .i8 0, .nilFunc], .bool false]) (by simp [results, Try.results163, go_sem]; rfl) rfl ⟨rfl, (Below.refl _ _).alloc (Nat.le_refl _) _⟩
  · have h1 : (len : Int) ≤ n := by omega
    go_enter Try.func163, Try.ntmps163
    go_wp2
    exact bodyPost_ret (v := .tuple #[.agg #[.string ByteArray.empty, .slice none 0 0, .int .i8 0, .nilFunc], .bool false]) (by simp [results, Try.results163, go_sem]; rfl) rfl ⟨rfl, (Below.refl _ _).alloc (Nat.le_refl _) _⟩

theorem sign_in (B b : Nat) (l : List Sign) (cap : Nat) (n : Nat) (s : Sign) (w : World) (_hlen : l.length ≤ 1000) (h : SignsAt w B b l) (hs : l[n]? = some s) :
    Calls Try.prog 163 #[.slice (some ⟨b, 0, none⟩) l.length cap, .int .i64 n] w fun e w' => ∃ g, e = .returned (.tuple #[.agg (s.cells g).toArray, .bool true]) ∧ B ≤ g ∧ Blk w' g 40 (s.args.map (Value.int .i8)).toArray ∧ Below w.heap.size w w' := by
  obtain ⟨g, h1, h2, c0, c1, c2, c3, h4⟩ := (h.2.2 n s hs).all
  have hn := (List.getElem?_eq_some_iff.1 hs).1
  have hb := h.2.1
  obtain ⟨F, hF⟩ : ∃ F, s.fn = .func (Fn.func F) #[] #[] := ⟨_, rfl⟩
  rw [hF] at c3
  have HF := Lib.hid hF
  have H4 := Lib.hid h4
  clear hF h4 hs h
  go_enter Try.func163, Try.ntmps163
  go_wp2
  refine bodyPost_ret (v := .tuple #[.agg #[.string s.name, .slice (some ⟨g, 0, none⟩) s.args.length s.args.length, .int .i8 s.tell, .func (Fn.func F) #[] #[]], .bool true]) (by simp [results, Try.results163, go_sem]) rfl
    ⟨g, by simp [Sign.cells, HF.out], h1, ?_⟩
  have hbel : ∀ w', Below w.heap.size w w' → Blk w' g 40 (s.args.map (Value.int .i8)).toArray ∧ Below w.heap.size w w' := fun w' hb => ⟨H4.out.below hb h2, hb⟩
  refine hbel _ ?_
  repeat (first | exact (Below.refl _ _).alloc (Nat.le_refl _) _ | refine Below.setCell ?_ (Nat.le_refl _) _)
end Go.Proofs.Ytggibiodeecljaa
