/- The closed law ApiErrors returns true: every error constant of package api has the number that the document gives it. No conditions. -/
import Derived.Test.YtnolfopgijgpcaaErrA
import Derived.Test.YtnolfopgijgpcaaRows
import Derived.ProofKit
import Derived.OpenShut
import Derived.SizedLaws
namespace Go.Proofs.Ytnolfopgijgpcaa.ErrC
open Go.RowKit Go.Proofs.Ytnolfopgijgpcaa.ErrA Go.Proofs.Ytnolfopgijgpcaa.ErrB
open Go.ChangeShapes Go.WideShapes Go.ChangeAt
set_option linter.unusedVariables false

theorem below_drewN {B : Nat} {a w : World} (h : Below B a w) (n : Nat) : Below B a (w.drewN n) := ⟨h.os, h.tape, h.output, h.size, h.block⟩

theorem all_post (w : World) (n : Nat) (l : Array Value) (hn : n ≤ 1000) (h0 : 0 < n) (ht : twins l.toList) (hl : l.size = n * 2) :
    Calls Try.prog 7 #[.slice (some ⟨w.heap.size, 0, none⟩) n n] (w.alloc (.cells l 41)) fun e w' => e = .returned (.bool true) ∧ Below w.heap.size w w' :=
  (all_true w.heap.size n _ hn h0 (show Hid _ from pairs_of_twins w l n ht hl)).mono fun e w' ⟨he, k, hw⟩ => ⟨he, hw ▸ below_drewN ((Below.refl _ _).alloc (Nat.le_refl _) _) _⟩

theorem below_next {w a b : World} (h : Below w.heap.size w a) (k : Below a.heap.size a b) : Below w.heap.size w b := h.trans (k.mono h.size)

set_option maxHeartbeats 1000000 in
theorem law_walk (w : World) : Calls Try.prog 3 #[] w fun e w' => e = .returned (.bool true) ∧ Below w.heap.size w w' := by
  go_enter Try.func3, Try.ntmps3
  go_wp2_with fail
  refine (errors1_any _).mono ?_
  rintro e w' ⟨rfl, l1, rfl, ht1, hl1⟩
  go_wp2_with fail
  refine (all_post _ 50 l1 (by omega) (by omega) ht1 hl1).mono ?_
  rintro e w1 ⟨rfl, hb1⟩
  clear ht1 hl1
  go_wp2_with fail
  refine (errors2_any _).mono ?_
  rintro e w' ⟨rfl, l2, rfl, ht2, hl2⟩
  go_wp2_with fail
  refine (all_post _ 50 l2 (by omega) (by omega) ht2 hl2).mono ?_
  rintro e w2 ⟨rfl, hb2⟩
  clear ht2 hl2
  go_wp2_with fail
  refine (errors3_any _).mono ?_
  rintro e w' ⟨rfl, l3, rfl, ht3, hl3⟩
  go_wp2_with fail
  refine (all_post _ 13 l3 (by omega) (by omega) ht3 hl3).mono ?_
  rintro e w3 ⟨rfl, hb3⟩
  clear ht3 hl3
  go_wp2_with fail
  go_ret
  exact ⟨rfl, below_next (below_next hb1 hb2) hb3⟩

theorem own : ownKnob Try.prog.godebug = none := by kernel_rfl
set_option maxRecDepth 100000 in
theorem lifted (os : Os) (started : os.Started) (H : Type) (enc : TypeId × Value → H) :
    ReturnsInHanded {} Try.checked os 3 .any (Rows.apiErrorsSpec.pre6 enc Try.prog Try.f3 Rows.apiErrorsRow.domain false) (Rows.apiErrorsSpec.post enc Try.prog Try.f3 false true false false) := by
  refine returnsInHanded_of_change_sized (C := Try.checked) own started (by kernel_rfl) Try.func3
    (ChangeSpec.witness6 (enc := enc) (C := Try.checked) false ⟨#[], #[], []⟩ 8 (by kernel_rfl) (by kernel_rfl) (by kernel_rfl) (by kernel_rfl)) ?_
  intro W base args ds gs before hval0 hW hcnd hsz0 _
  have hW' := hW
  obtain ⟨p, q, hA0, hV, rfl, hfz, hnd⟩ := hW
  have hA : DataW.TrodAll enc Try.prog W 0 (fun _ => true) true Try.f3.params.toList args.toList ds p := hA0
  rw [Try.params3] at hA
  obtain ⟨rfl, rfl, rfl⟩ := trodAll_none hA
  obtain ⟨rfl, rfl⟩ := trodVars_none hV
  clear hA0 hval0 hsz0
  refine (law_walk W).mono fun e W' ⟨he, bel⟩ => ?_
  subst he
  exact ⟨_, rfl, _, _, _, [], _, [], hW', trodAll_mk1 (shut_bool Try.underlying4 _), trodAll_mk0, rfl, bel.frame _, fun h => by cases h⟩
theorem over : Rows.apiErrorsRow.holds Try.pinned (OpenSpec.ofChange Rows.apiErrorsSpec) :=
  OpenClaim.holds_of_wide 3 Try.f3 rfl rfl rfl rfl rfl rfl rfl ⟨rfl, rfl, rfl, rfl, rfl⟩ rfl rfl rfl rfl rfl (by kernel_rfl) Try.func3 (by kernel_rfl)
    (of_decide_eq_true (by kernel_rfl)) (by unfold Func.isWrapper; first | (rw [if_pos (by decide +kernel)]; kernel_rfl) | (rw [if_neg (by decide +kernel)]; exact ⟨rfl, rfl⟩))
    (fun os started H enc _ => lifted os started H enc)
end Go.Proofs.Ytnolfopgijgpcaa.ErrC
namespace Go.Proofs.Ytnolfopgijgpcaa
theorem apiErrors_holds : Rows.ApiErrorsSaid := ErrC.over
#print axioms apiErrors_holds
end Go.Proofs.Ytnolfopgijgpcaa
