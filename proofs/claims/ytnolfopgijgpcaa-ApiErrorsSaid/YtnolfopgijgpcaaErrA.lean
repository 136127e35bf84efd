/- The three lists of errors that ApiErrors goes over: each is a new block of pairs of equal numbers. No conditions. -/
import Derived.Test.YtnolfopgijgpcaaErrB
namespace Go.Proofs.Ytnolfopgijgpcaa.ErrA
open Go.RowKit Go.Proofs.Ytnolfopgijgpcaa.ErrB

theorem num_any (n : Int) (w : World) : Calls Try.prog 19 #[.int .i64 n] w fun e w' => e = .returned (.int .i64 n) ∧ w = w' := by
  go_enter Try.func19, Try.ntmps19
  go_wp2
  go_ret
  exact ⟨rfl, rfl⟩

/-- A list of cells is a list of pairs of equal numbers. -/
def twins : List Value → Prop
  | .int .i64 x :: .int .i64 y :: r => x = y ∧ twins r
  | [] => True
  | _ => False

theorem twins_at : ∀ (n : Nat) (l : List Value), twins l → l.length = n * 2 → ∀ i, i < n → ∃ x : Int, l[i * 2]? = some (.int .i64 x) ∧ l[i * 2 + 1]? = some (.int .i64 x)
  | 0, _, _, _, i, hi => by omega
  | n + 1, l, ht, hl, i, hi => by
    match l, ht, hl with
    | .int .i64 x :: .int .i64 y :: r, ht, hl =>
      obtain ⟨rfl, ht⟩ := ht
      simp only [List.length_cons] at hl
      cases i with
      | zero => exact ⟨x, rfl, rfl⟩
      | succ i =>
        obtain ⟨z, h1, h2⟩ := twins_at n r ht (by omega) i (by omega)
        refine ⟨z, ?_, ?_⟩
        · rw [show (i + 1) * 2 = i * 2 + 1 + 1 by omega]; simpa using h1
        · rw [show (i + 1) * 2 + 1 = i * 2 + 1 + 1 + 1 by omega]; simpa using h2

theorem pairs_of_twins (w : World) (l : Array Value) (n : Nat) (ht : twins l.toList) (hl : l.size = n * 2) : Pairs (w.alloc (.cells l 41)) w.heap.size n := by
  intro i hi
  obtain ⟨x, h1, h2⟩ := twins_at n l.toList ht (by simpa using hl) i hi
  refine ⟨x, ?_, ?_⟩
  · rw [World.cell?_alloc_new, ← Array.getElem?_toList]; exact h1
  · rw [World.cell?_alloc_new, ← Array.getElem?_toList]; exact h2

def Post (n : Nat) (w : World) (e : Ending) (w' : World) : Prop :=
  e = .returned (.slice (some ⟨w.heap.size, 0, none⟩) n n) ∧ ∃ l : Array Value, w' = w.alloc (.cells l 41) ∧ twins l.toList ∧ l.size = n * 2

set_option maxRecDepth 100000 in
set_option maxHeartbeats 4000000 in
theorem errors1_any (w : World) : Calls Try.prog 8 #[] w (Post 50 w) := by
  go_enter Try.func8, Try.ntmps8
  go_wp2_with (go_at_call 19; refine (num_any _ _).mono ?_; rintro e w' ⟨rfl, rfl⟩)
  go_ret
  exact ⟨rfl, _, rfl, by simp [twins], rfl⟩
set_option maxRecDepth 100000 in
set_option maxHeartbeats 4000000 in
theorem errors2_any (w : World) : Calls Try.prog 9 #[] w (Post 50 w) := by
  go_enter Try.func9, Try.ntmps9
  go_wp2_with (go_at_call 19; refine (num_any _ _).mono ?_; rintro e w' ⟨rfl, rfl⟩)
  go_ret
  exact ⟨rfl, _, rfl, by simp [twins], rfl⟩
set_option maxRecDepth 100000 in
set_option maxHeartbeats 4000000 in
theorem errors3_any (w : World) : Calls Try.prog 10 #[] w (Post 13 w) := by
  go_enter Try.func10, Try.ntmps10
  go_wp2_with (go_at_call 19; refine (num_any _ _).mono ?_; rintro e w' ⟨rfl, rfl⟩)
  go_ret
  exact ⟨rfl, _, rfl, by simp [twins], rfl⟩

end Go.Proofs.Ytnolfopgijgpcaa.ErrA
