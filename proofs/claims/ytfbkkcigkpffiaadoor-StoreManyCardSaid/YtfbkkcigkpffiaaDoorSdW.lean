/- The law StoreMany returns true for every crowd. Condition: the digest's two tables and the codes' numbers start as the program's text lays them (the tied card). -/
import Derived.Test.YtfbkkcigkpffiaaDoorSdV
import Derived.Test.YtfbkkcigkpffiaaDoorSdY
import Derived.Test.YtfbkkcigkpffiaaDoorTie
import Derived.Test.YtfbkkcigkpffiaaDoorCards
namespace Go.Proofs.YtfbkkcigkpffiaaDoor.St
set_option linter.unusedVariables false
open Go.Shelf Go.ChangeShapes Go.WideShapes Go.ChangeAt Go.RowKit Go.Lib Go.Deep
open Go.Proofs.YtfbkkcigkpffiaaDoorW.PrintWords
set_option maxRecDepth 100000 in
/-- WHAT THE WALK GIVES, for every argument and every world that holds the tables. -/
theorem contract (H : Type) (enc : TypeId × Value → H) (W : World) (base : Nat) (args : Array Value) (ds gs : List (DataW H)) (before : List MemPlace)
    (hval : ∀ (j : Nat) t v, Tryd.f4.params[j]? = some t → args[j]? = some v → Value.okWide Tryd.prog W .any base t v)
    (hW : DataW.Whole enc Tryd.prog Tryd.f4.params.toList Rows.storeManySpec.vars false W args.toList ds gs before)
    (hT : Tabs bgs (fun t => rks.getD t 0) W ∧ W.cell? ⟨3, 0, none⟩ = some (.int .i64 0)) :
    Calls Tryd.prog 4 args W fun e W' => ∃ v, e = .returned v ∧ Rows.storeManySpec.post enc Tryd.prog Tryd.f4 false true false false W args v W' := by
  have hW' := hW
  have hlt := hW.lt
  obtain ⟨p, q, hA0, hV, rfl, hfz, hnd⟩ := hW
  have hA : DataW.TrodAll enc Tryd.prog W 0 (fun _ => true) true Tryd.f4.params.toList args.toList ds p := hA0
  rw [Tryd.params4] at hA hval
  obtain ⟨v0, d0, rfl, rfl, h0⟩ := trodAll_one hA
  obtain ⟨rfl, rfl⟩ := trodVars_none hV
  have hok := hval 0 42 v0 rfl rfl
  clear hA0 hval
  simp only [List.append_nil] at hW' hlt
  have fin : ∀ W', Below W.heap.size W W' → Rows.storeManySpec.post enc Tryd.prog Tryd.f4 false true false false W #[v0] (.bool true) W' := fun W' bel =>
    ⟨_, _, _, [], _, [], hW', trodAll_mk1 (shut_bool Tryd.underlying4 _), trodAll_mk1 (Below.trod (by kernel_rfl) (by kernel_rfl) (of_decide_eq_true (by kernel_rfl)) h0 bel hlt), rfl, bel.frame _, fun h => by cases h⟩
  obtain ⟨x0, x1, y0, y1, n, rfl, rfl, rfl, hx0, hx1⟩ := Joins.open_agg2 Tryd.underlying42 (by kernel_rfl) (by kernel_rfl) hok h0
  obtain ⟨nn, e0, _, _⟩ := DataW.trod_int Tryd.underlying3 hx0
  obtain rfl : x0 = .int .i64 nn := by simpa using e0
  obtain ⟨sd, e1, _, hwf⟩ := DataW.trod_int Tryd.underlying5 hx1
  obtain rfl : x1 = .int .u8 sd := by simpa using e1
  have hsb : Byte sd := by
    simp [Lit.wf, IntKind.min, IntKind.max, IntKind.signed, IntKind.bits] at hwf
    unfold Byte
    omega
  refine (many_walk bgs _ nn sd hsb W hT.1 hT.2).mono fun e W' ⟨he, bel⟩ => ?_
  subst he
  exact ⟨_, rfl, fin W' bel⟩

theorem witness_row (os : Os) {H : Type} (enc : TypeId × Value → H) :
    (OpenSpec.ofChange Rows.storeManySpec).preRow enc Tryd.prog Tryd.f4 Rows.storeManyRow.domain false Rows.storeManyRow.laid ((laidWorld os).forCall (fun _ _ => 0) ⟨#[], #[.agg #[.int .i64 0, .int .u8 0]], []⟩).memory #[.agg #[.int .i64 0, .int .u8 0]] := by
  have hw : (DataW.whole enc Tryd.prog ((laidWorld os).forCall (fun _ _ => 0) ⟨#[], #[.agg #[.int .i64 0, .int .u8 0]], []⟩).memory Tryd.f4.params.toList Rows.storeManySpec.vars false #[Value.agg #[.int .i64 0, .int .u8 0]].toList 8).map (fun x => (x.1, x.2.1)) =
      some ([.agg [.lit (.int .i64 0), .lit (.int .u8 0)]], []) := by kernel_rfl
  obtain ⟨⟨x1, x2, x3⟩, hx, hx1⟩ := Option.map_eq_some_iff.1 hw
  simp only [Prod.mk.injEq] at hx1
  obtain ⟨rfl, rfl⟩ := hx1
  exact OpenSpec.preRow_of_cond 8 hx (by kernel_rfl) (fun k hk => by cases hk) (by kernel_rfl) (laid_met os _)

set_option maxRecDepth 100000 in
set_option maxHeartbeats 2000000 in
theorem lifted (os : Os) (started : os.Started) (H : Type) (enc : TypeId × Value → H) (F : Stop.Interp) :
    ReturnsInHanded {} Tryd.checked os 4 .any ((OpenSpec.ofChange Rows.storeManySpec).preRow enc Tryd.prog Tryd.f4 Rows.storeManyRow.domain false Rows.storeManyRow.laid) (((OpenSpec.ofChange Rows.storeManySpec).at F).post enc Tryd.prog Tryd.f4 false true false false) := by
  refine returnsInHanded_of_row (C := Tryd.checked) (s := OpenSpec.ofChange Rows.storeManySpec) own started (by kernel_rfl) Tryd.func4
    (witness_row_atRef (enc := enc) (C := Tryd.checked) false (laidWorld os) #[.agg #[.int .i64 0, .int .u8 0]] rfl (by kernel_rfl) (by kernel_rfl) (by kernel_rfl) (witness_row os enc)) ?_
  intro W base args ds gs before hval hW _ _ hz hL _ _
  exact contract H enc W base args ds gs before hval hW (tabs_of_laid hL)

theorem said : Rows.StoreManySaid :=
  OpenClaim.holds_of_cond 4 Tryd.f4 rfl rfl rfl rfl rfl rfl rfl ⟨rfl, rfl, rfl, rfl, rfl⟩ rfl rfl rfl rfl rfl (by kernel_rfl) Tryd.func4 (by kernel_rfl)
    (of_decide_eq_true (by kernel_rfl)) (by unfold Func.isWrapper; first | (rw [if_pos (by decide +kernel)]; kernel_rfl) | (rw [if_neg (by decide +kernel)]; exact ⟨rfl, rfl⟩))
    (fun os started H enc _ F => by rw [OpenClaim.pre_eq_preRow]; exact lifted os started H enc F)

theorem plain (f : FuncId) (fn : Func) (hf : Tryd.pinned.checked.prog.funcNamed "satchel/satchellaw4.StoreMany" = some f) (hfn : Tryd.pinned.checked.prog.funcs[f]? = some fn) :
    true = Tryd.pinned.checked.prog.looks [] ∧ ∀ (j : Nat) t, fn.params[j]? = some t → Tryd.pinned.checked.prog.wantsStandIn t = false := by
  obtain rfl : f = 4 := Option.some.inj ((show Tryd.prog.funcNamed "satchel/satchellaw4.StoreMany" = some 4 by kernel_rfl).symm.trans hf) |>.symm
  obtain rfl : fn = Tryd.f4 := (Option.some.inj (Tryd.func4.symm.trans hfn)).symm
  refine ⟨by kernel_rfl, fun j t ht => ?_⟩
  rw [Tryd.params4] at ht
  obtain rfl : t = 42 := by simpa using Array.mem_of_getElem? ht
  exact (show Tryd.prog.wantsStandIn 42 = false by kernel_rfl)
end Go.Proofs.YtfbkkcigkpffiaaDoor.St
namespace Go.Proofs.YtfbkkcigkpffiaaDoor
theorem storeMany_card : Rows.StoreManyCardSaid :=
  Claim7.holds_tied_plain_at .later [] _ _ _ _ St.said (fun _ h => by cases h) (by kernel_rfl) (fun _ h => by cases h) storeMany_row_tie rfl ⟨rfl, rfl⟩ (by kernel_rfl) rfl St.plain (by kernel_rfl)
#print axioms storeMany_card
end Go.Proofs.YtfbkkcigkpffiaaDoor
