/- The law RefsBack returns true for every list of rules and names: Map and Unmap lead to one another, targets are good names, left-out names, the least clash. Condition: utf8's two tables start as the program's text lays them (the tied card). -/
import Derived.Test.YtnolfopgijgpcaaDoorBkC
namespace Go.Proofs.YtnolfopgijgpcaaDoor.Rm
set_option linter.unusedVariables false
open Go.Shelf Go.ChangeShapes Go.WideShapes Go.ChangeAt Go.RowKit Go.Lib Go.Deep
open Go.Proofs.YtnolfopgijgpcaaDoorW.PrintWords

set_option maxRecDepth 100000 in
/-- WHAT THE WALK GIVES, for every argument and every world that holds the two tables. -/
theorem contractB (H : Type) (enc : TypeId × Value → H) (W : World) (base : Nat) (args : Array Value) (ds gs : List (DataW H)) (before : List MemPlace)
    (hval : ∀ (j : Nat) t v, Tryd.f6.params[j]? = some t → args[j]? = some v → Value.okWide Tryd.prog W .any base t v)
    (hW : DataW.Whole enc Tryd.prog Tryd.f6.params.toList Rows.refsBackSpec.vars false W args.toList ds gs before)
    (hz : (DataW.weightsEach Tryd.prog (Tryd.f6.params.toList ++ (OpenSpec.ofChange Rows.refsBackSpec).bare.plain.varTypes Tryd.prog) (ds ++ gs)).all (· ≤ reachBytes) = true) (hT : Lib.Utf8Tabs 0 1 W) :
    Calls Tryd.prog 6 args W fun e W' => ∃ v, e = .returned v ∧ Rows.refsBackSpec.post enc Tryd.prog Tryd.f6 false true false false W args v W' := by
  have hW' := hW
  have hlt := hW.lt
  obtain ⟨p, q, hA0, hV, rfl, hfz, hnd⟩ := hW
  have hA : DataW.TrodAll enc Tryd.prog W 0 (fun _ => true) true Tryd.f6.params.toList args.toList ds p := hA0
  rw [Tryd.params6] at hA hval hz
  obtain ⟨v0, d0, rfl, rfl, h0⟩ := trodAll_one hA
  obtain ⟨rfl, rfl⟩ := trodVars_none hV
  have hok := hval 0 42 v0 rfl rfl
  clear hA0 hval
  simp only [List.append_nil] at hW' hlt
  have fin : ∀ W', Below W.heap.size W W' → Rows.refsBackSpec.post enc Tryd.prog Tryd.f6 false true false false W #[v0] (.bool true) W' := fun W' bel =>
    ⟨_, _, _, [], _, [], hW', trodAll_mk1 (shut_bool Tryd.underlying4 _), trodAll_mk1 (Below.trod (by kernel_rfl) (by kernel_rfl) (of_decide_eq_true (by kernel_rfl)) h0 bel hlt), rfl, bel.frame _, fun h => by cases h⟩
  obtain ⟨x0, x1, y0, y1, n, rfl, rfl, rfl, hx0, hx1⟩ := Joins.open_agg2 Tryd.underlying42 (by kernel_rfl) (by kernel_rfl) hok h0
  have hwt : ∀ k ∈ (DataW.agg [y0.1, y1.1]).weights Tryd.prog 42, k ≤ reachBytes := fun k hk => by
    have := List.all_eq_true.1 hz k (DataW.weights_mem_each (j := 0) (t := 42) (d := DataW.agg [y0.1, y1.1]) rfl rfl k hk)
    exact of_decide_eq_true this
  have hw2 : ∀ k, (k ∈ y0.1.weights Tryd.prog 39 ∨ k ∈ y1.1.weights Tryd.prog 40) → k ≤ reachBytes := fun k hk => hwt k (by
    simp only [DataW.weights, Tryd.underlying42, DataW.weightsEach, List.map_cons, List.map_nil, List.mem_append]
    rcases hk with hk | hk
    · exact .inl hk
    · exact .inr (.inl hk))
  obtain ⟨A, l, c, rfl, hc, hC, hr, hl⟩ := open_rules reachBytes hx0 (fun k hk => hw2 k (.inl hk))
  obtain ⟨B, L, d, rfl, hd, hD, hn, hL⟩ := open_texts reachBytes hx1 (fun k hk => hw2 k (.inr hk))
  have hbig : 8 * reachBytes + 8 ≤ big := by have := reachBytes_lt; unfold big; omega
  have walk := back_walk reachBytes hbig l L A c B d W (Lib.hid hT) hC hc hr hD hd hn (by omega) (by omega)
  refine walk.mono fun e W' ⟨he, bel⟩ => ?_
  subst he
  exact ⟨_, rfl, fin W' bel⟩

theorem witness_rowB (os : Os) {H : Type} (enc : TypeId × Value → H) :
    (OpenSpec.ofChange Rows.refsBackSpec).preRow enc Tryd.prog Tryd.f6 Rows.refsBackRow.domain false Rows.refsBackRow.laid ((laidWorld os).forCall (fun _ _ => 0) ⟨#[], #[.agg #[.slice none 0 0, .slice none 0 0]], []⟩).memory #[.agg #[.slice none 0 0, .slice none 0 0]] := by
  have hw : (DataW.whole enc Tryd.prog ((laidWorld os).forCall (fun _ _ => 0) ⟨#[], #[.agg #[.slice none 0 0, .slice none 0 0]], []⟩).memory Tryd.f6.params.toList Rows.refsBackSpec.vars false #[Value.agg #[.slice none 0 0, .slice none 0 0]].toList 8).map (fun x => (x.1, x.2.1)) =
      some ([.agg [.nil, .nil]], []) := by kernel_rfl
  obtain ⟨⟨x1, x2, x3⟩, hx, hx1⟩ := Option.map_eq_some_iff.1 hw
  simp only [Prod.mk.injEq] at hx1
  obtain ⟨rfl, rfl⟩ := hx1
  exact OpenSpec.preRow_of_cond 8 hx (by kernel_rfl) (fun k hk => by cases hk) (by kernel_rfl) (laid_met os _)

set_option maxRecDepth 100000 in
set_option maxHeartbeats 2000000 in
theorem liftedB (os : Os) (started : os.Started) (H : Type) (enc : TypeId × Value → H) (F : Stop.Interp) :
    ReturnsInHanded {} Tryd.checked os 6 .any ((OpenSpec.ofChange Rows.refsBackSpec).preRow enc Tryd.prog Tryd.f6 Rows.refsBackRow.domain false Rows.refsBackRow.laid) (((OpenSpec.ofChange Rows.refsBackSpec).at F).post enc Tryd.prog Tryd.f6 false true false false) := by
  refine returnsInHanded_of_row (C := Tryd.checked) (s := OpenSpec.ofChange Rows.refsBackSpec) own started (by kernel_rfl) Tryd.func6
    (witness_row_atRef (enc := enc) (C := Tryd.checked) false (laidWorld os) #[.agg #[.slice none 0 0, .slice none 0 0]] rfl (by kernel_rfl) (by kernel_rfl) (by kernel_rfl) (witness_rowB os enc)) ?_
  intro W base args ds gs before hval hW _ _ hz hL _ _
  exact contractB H enc W base args ds gs before hval hW hz (tabs_of_laid hL)

theorem saidB : Rows.RefsBackSaid :=
  OpenClaim.holds_of_cond 6 Tryd.f6 rfl rfl rfl rfl rfl rfl rfl ⟨rfl, rfl, rfl, rfl, rfl⟩ rfl rfl rfl rfl rfl (by kernel_rfl) Tryd.func6 (by kernel_rfl)
    (of_decide_eq_true (by kernel_rfl)) (by unfold Func.isWrapper; first | (rw [if_pos (by decide +kernel)]; kernel_rfl) | (rw [if_neg (by decide +kernel)]; exact ⟨rfl, rfl⟩))
    (fun os started H enc _ F => by rw [OpenClaim.pre_eq_preRow]; exact liftedB os started H enc F)

theorem plainB (f : FuncId) (fn : Func) (hf : Tryd.pinned.checked.prog.funcNamed "satchel/satchellaw14.RefsBack" = some f) (hfn : Tryd.pinned.checked.prog.funcs[f]? = some fn) :
    true = Tryd.pinned.checked.prog.looks [] ∧ ∀ (j : Nat) t, fn.params[j]? = some t → Tryd.pinned.checked.prog.wantsStandIn t = false := by
  obtain rfl : f = 6 := Option.some.inj ((show Tryd.prog.funcNamed "satchel/satchellaw14.RefsBack" = some 6 by kernel_rfl).symm.trans hf) |>.symm
  obtain rfl : fn = Tryd.f6 := (Option.some.inj (Tryd.func6.symm.trans hfn)).symm
  refine ⟨by kernel_rfl, fun j t ht => ?_⟩
  rw [Tryd.params6] at ht
  obtain rfl : t = 42 := by simpa using Array.mem_of_getElem? ht
  exact (show Tryd.prog.wantsStandIn 42 = false by kernel_rfl)
end Go.Proofs.YtnolfopgijgpcaaDoor.Rm
namespace Go.Proofs.YtnolfopgijgpcaaDoor
theorem refsBack_card : Rows.RefsBackCardSaid :=
  Claim7.holds_tied_plain_at .later [] _ _ _ _ Rm.saidB (fun _ h => by cases h) (by kernel_rfl) (fun _ h => by cases h) refsBack_row_tie rfl ⟨rfl, rfl⟩ (by kernel_rfl) rfl Rm.plainB (by kernel_rfl)
#print axioms refsBack_card
end Go.Proofs.YtnolfopgijgpcaaDoor
