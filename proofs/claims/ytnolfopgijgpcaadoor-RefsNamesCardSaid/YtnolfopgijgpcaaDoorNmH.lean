/- The walk of the law RefsNames. -/
import Derived.Test.YtnolfopgijgpcaaDoorNmG
import Derived.Deep.RegionWith
namespace Go.Proofs.YtnolfopgijgpcaaDoor.Nm
set_option linter.unusedVariables false
open Go.Lib Go.RowKit Go.Proofs.YtnolfopgijgpcaaDoorW.PrintWords

/-- What the walk asks of row k of the texts, in whatever world that keeps W. -/
def RowAt (W : World) (A : Option Addr) (k : Nat) (X : Value) (S : ByteArray) : Prop :=
  ∃ a, A = some a ∧ ∀ W', Below W.heap.size W W' → W'.cell? (a.add k) = some X ∧ (convert 27 9 X).run Tryd.prog W' = .ok (.string S) W'

theorem below_undrew {w w' : World} (h : Below w.drew.heap.size w.drew w') : Below w.heap.size w w' := ⟨h.os, h.tape, h.output, h.size, h.block⟩

set_option maxRecDepth 100000 in
set_option maxHeartbeats 1000000 in
theorem names_walk (W : World) (A : Option Addr) (len cap : Nat) (hlen : len ≤ 9223372036854775807) (X : Nat → Value) (S : Nat → ByteArray) (hS : ∀ k, (S k).size ≤ 9223372036854775807)
    (hrow : Hid (∀ k, k < len → RowAt W A k (X k) (S k))) (hT : Hid (Lib.Utf8Tabs 0 1 W)) :
    Calls Tryd.prog 3 #[.agg #[.slice A len cap]] W fun e w' => e = .returned (.bool true) ∧ Below W.heap.size W w' := by
  go_enter Tryd.func3, Tryd.ntmps3
  go_wp2
  go_loopw [3] (fun i wr => ∃ k : Nat, k ≤ len ∧ i = .int .i64 k ∧ Below (W.heap.size + 1) (W.alloc (.cells #[.slice A len cap] 24)) wr) (fun i _ => len - (intOf i).toNat)
  case atStart => exact ⟨0, Nat.zero_le _, rfl, Below.refl _ _⟩
  case round =>
    obtain ⟨k, hk, rfl, hb⟩ := hrel
    have hbW : Below W.heap.size W wr := ((Below.refl _ _).alloc (Nat.le_refl _) _).trans (hb.mono (by omega))
    have hbox : wr.cell? ⟨W.heap.size, 0, none⟩ = some (.slice A len cap) := by rw [hb.cell (by simp)]; simp
    have hbs := hb.size
    have HB := Lib.hid hb
    have HBW := Lib.hid hbW
    clear hb hbW
    by_cases hlt : k < len
    · obtain ⟨a, rfl, ha⟩ := hrow.out k hlt
      obtain ⟨hc, hcv⟩ := ha wr HBW.out
      have HA := Lib.hid ha
      clear ha
      go_wp2_with fail
      refine (check_walk (S k) _ (hS k) (tabs_below hT.out HBW.out)).mono ?_
      rintro e w2 ⟨rfl, hb2⟩
      have HB2 := Lib.hid hb2
      have HBW2 := Lib.hid (HBW.out.trans (hb2.mono HBW.out.size))
      have hbox2 : w2.cell? ⟨W.heap.size, 0, none⟩ = some (.slice (some a) len cap) := by rw [hb2.cell (by simp at hbs; simp; omega)]; exact hbox
      clear hb2
      obtain ⟨hc2, _⟩ := HA.out w2 HBW2.out
      have hcv2 : ∀ d, (convert 27 9 (X k)).run Tryd.prog (w2.drewN d) = .ok (.string (S k)) (w2.drewN d) := fun d => (HA.out (w2.drewN d) (pw_below_drewN HBW2.out d)).2
      have hcv3 : (convert 27 9 (X k)).run Tryd.prog w2.drew = .ok (.string (S k)) w2.drew := hcv2 1
      go_wp2_with fail
      go_region_with (first | (go_at_call 9; refine (num_any _ _).mono ?_; rintro e w' ⟨rfl, rfl⟩) | (go_at_call 10; refine (refCheck_walk (S k) _).mono ?_; rintro e w3 ⟨rfl, hb3⟩))
      all_goals
        have hb23 := below_undrew hb3
        have HB3 := Lib.hid (HB2.out.trans (hb23.mono HB2.out.size))
        clear hb3 hb23
        go_wp2
        go_roundw
        case rel => exact ⟨k + 1, by omega, by go_num, HB.out.trans (HB3.out.mono (by simpa using hbs))⟩
        case measure => simp [intOf]; omega
    · have HR := Lib.hid (right_walk wr (tabs_below hT.out HBW.out))
      go_wp2_with fail
      refine HR.out.mono ?_
      rintro e w2 ⟨rfl, hb2⟩
      have HB2 := Lib.hid hb2
      clear hb2
      go_wp2_with fail
      go_ret
      exact ⟨rfl, HBW.out.trans (HB2.out.mono HBW.out.size)⟩
end Go.Proofs.YtnolfopgijgpcaaDoor.Nm
