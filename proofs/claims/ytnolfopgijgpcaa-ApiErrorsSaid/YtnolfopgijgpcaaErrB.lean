/- The walk of satchellaw0.all over a list of pairs of equal numbers: it returns true. No conditions. -/
import Derived.Test.YtnolfopgijgpcaaProg
import Derived.WalkKit
import Derived.KernelRfl
import Derived.Below
import Derived.Outline
import Derived.Deep.QuietTactic
import Derived.BigQuiet
import Derived.Deep.Draws
namespace Go.Proofs.Ytnolfopgijgpcaa.ErrB
open Go.RowKit

/-- n pairs of equal numbers lie at the head of block b. -/
def Pairs (w : World) (b n : Nat) : Prop := ∀ i, i < n → ∃ x : Int, w.cell? ⟨b, i * 2, none⟩ = some (.int .i64 x) ∧ w.cell? ⟨b, i * 2 + 1, none⟩ = some (.int .i64 x)

set_option maxHeartbeats 1000000 in
theorem all_true (b n : Nat) (w : World) (hn : n ≤ 1000) (h0 : 0 < n) (hp : Hid (Pairs w b n)) :
    Calls Try.prog 7 #[.slice (some ⟨b, 0, none⟩) n n] w fun e w' => e = .returned (.bool true) ∧ ∃ k, w' = w.drewN k := by
  go_enter Try.func7, Try.ntmps7
  go_wp2
  go_loopw [3] (fun i wr => ∃ k : Nat, k ≤ n ∧ i = .int .i64 k ∧ ∃ d, wr = w.drewN d) (fun i _ => n - (intOf i).toNat)
  case atStart => exact ⟨0, Nat.zero_le _, rfl, 0, rfl⟩
  case round =>
    obtain ⟨k, hk, rfl, d, rfl⟩ := hrel
    by_cases hlt : k < n
    · obtain ⟨x, hx, hy⟩ := hp.out k hlt
      go_wp2
      go_quiet (fail)
      go_wp2
      go_roundw
      case rel => exact ⟨k + 1, by omega, by go_num, _, rfl⟩
      case measure => simp [intOf]; omega
    · go_wp2
      go_ret
      exact ⟨rfl, _, rfl⟩
end Go.Proofs.Ytnolfopgijgpcaa.ErrB
