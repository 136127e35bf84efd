/- The law StoreFull returns true for every room. Condition: the digest's two tables and the codes' numbers start as the program's text lays them (the tied card). -/
import Derived.Test.YtfbkkcigkpffiaaDoorSdN
import Derived.Test.YtfbkkcigkpffiaaDoorRows
import Derived.Test.YtfbkkcigkpffiaaDoorTie
import Derived.Test.YtfbkkcigkpffiaaDoorCards
import Derived.Lib.LaidIn
import Derived.Lib.LaidTab
import Derived.Lib.LaidU8T
import Derived.Lib.SmallJoins
import Derived.Deep.Matrix
import Derived.Deep.DeepHandedRow
import Derived.Deep.DeepWitnessRowRef
import Derived.ProofKit
import Derived.SizedLaws
import Derived.OpenShut
import Derived.Carry
import Derived.SevenTiedAt
namespace Go.Proofs.YtfbkkcigkpffiaaDoor.St
set_option linter.unusedVariables false
open Go.Shelf Go.ChangeShapes Go.WideShapes Go.ChangeAt Go.RowKit Go.Lib Go.Deep
open Go.Proofs.YtfbkkcigkpffiaaDoorW.PrintWords

theorem own : ownKnob Tryd.prog.godebug = none := by kernel_rfl
/-- The integers of a datum. -/
def ints {H : Type} : DataW H → List Int
  | .agg l => l.map fun d => match d with
    | .lit (.int _ n) => n
    | _ => 0
  | _ => []
def bgs : List Int := ints (Rows.laid_satchel_digest_begin : DataW Unit)
def rks : List Int := ints (Rows.laid_satchel_digest_rounds : DataW Unit)
def ers : List Int := ints (Rows.laid_satchel_code_errnos : DataW Unit)
theorem begin_eq : (Rows.laid_satchel_digest_begin : DataW Unit) = tabData .u32 bgs := by kernel_rfl
theorem rounds_eq : (Rows.laid_satchel_digest_rounds : DataW Unit) = tabData .u32 rks := by kernel_rfl
theorem errnos_eq : (Rows.laid_satchel_code_errnos : DataW Unit) = tabData .i64 ers := by kernel_rfl
theorem bgs_len : bgs.length = 8 := by kernel_rfl
theorem rks_len : rks.length = 64 := by kernel_rfl
theorem ers_head : ers[0]? = some 0 := by kernel_rfl
/-- A table's cells, out of what its variable reads as. -/
theorem cell_of_tab {W : World} {n : String} {g t e m : Nat} {k : IntKind} {zs : List Int} (hg : Tryd.prog.globalNamed n = some g) (hty : (Tryd.prog.globals[g]?).map (·.type) = some t) (ht : Tryd.prog.underlying t = some (.array m e))
    (he : Tryd.prog.underlying e = some (.int k)) (hce : Tryd.prog.cellsOf e = 1) (hct : Tryd.prog.cellsOf t = m) (h : VarReads Tryd.prog W n (tabData k zs)) (i : Nat) : W.cell? ⟨g, i, none⟩ = (zs[i]?).map (Value.int k) := by
  obtain ⟨g', t', cs, fuel, p, hg', hty', hvar, hd⟩ := h
  obtain rfl := Option.some.inj (hg.symm.trans hg')
  obtain rfl := Option.some.inj (hty.symm.trans hty')
  have hcs := cells_of_tab ht he hce hct hd
  rw [World.var?_cell hg hvar i, ← Array.getElem?_toList, hcs, List.getElem?_map]
theorem tabs_of_laid {W : World} (hL : laidMet Tryd.prog [("satchel/code.errnos", Rows.laid_satchel_code_errnos), ("satchel/digest.begin", Rows.laid_satchel_digest_begin), ("satchel/digest.rounds", Rows.laid_satchel_digest_rounds)] W) :
    Tabs bgs (fun t => rks.getD t 0) W ∧ W.cell? ⟨3, 0, none⟩ = some (.int .i64 0) := by
  have h1 := Lib.laidMet.reads hL (.head _)
  have h2 := Lib.laidMet.reads hL (.tail _ (.head _))
  have h3 := Lib.laidMet.reads hL (.tail _ (.tail _ (.head _)))
  rw [errnos_eq] at h1
  rw [begin_eq] at h2
  rw [rounds_eq] at h3
  refine ⟨⟨bgs_len, fun t ht => ?_, fun t ht => ?_⟩, ?_⟩
  · rw [cell_of_tab (g := 0) (t := 109) (by kernel_rfl) (by kernel_rfl) Tryd.underlying109 Tryd.underlying108 (by kernel_rfl) (by kernel_rfl) h2 t, List.getElem?_eq_getElem (by rw [bgs_len]; exact ht), List.getD_eq_getElem?_getD, List.getElem?_eq_getElem (by rw [bgs_len]; exact ht)]
    rfl
  · rw [cell_of_tab (g := 1) (t := 137) (by kernel_rfl) (by kernel_rfl) Tryd.underlying137 Tryd.underlying108 (by kernel_rfl) (by kernel_rfl) h3 t, List.getElem?_eq_getElem (by rw [rks_len]; exact ht)]
    simp only [List.getD_eq_getElem?_getD, List.getElem?_eq_getElem (show t < rks.length by rw [rks_len]; exact ht)]
    rfl
  · rw [cell_of_tab (g := 3) (t := 145) (m := 5) (e := 36) (by kernel_rfl) (by kernel_rfl) (by kernel_rfl) Tryd.underlying36 (by kernel_rfl) (by kernel_rfl) h1 0, ers_head]
    rfl
/-- THE WITNESS: the settled world, the three variables holding what their initialisers lay. -/
noncomputable def laidWorld (os : Os) : World :=
  let w0 := World.holding Tryd.prog os ⟨#[], #[], []⟩
  let put (h : Array Obj) (g : Nat) (cs : Array Value) : Array Obj := h.modify g fun
    | .cells _ t frozen => .cells cs t frozen
    | o => o
  let h1 := put w0.heap 0 (bgs.map fun z => Value.int .u32 z).toArray
  let h2 := put h1 1 (rks.map fun z => Value.int .u32 z).toArray
  let h3 := put h2 3 (ers.map fun z => Value.int .i64 z).toArray
  { w0 with heap := h3 }
theorem laid_met (os : Os) (args : Array Value) : laidMet Tryd.prog [("satchel/code.errnos", Rows.laid_satchel_code_errnos), ("satchel/digest.begin", Rows.laid_satchel_digest_begin), ("satchel/digest.rounds", Rows.laid_satchel_digest_rounds)] ((laidWorld os).forCall (fun _ _ => 0) ⟨#[], args, []⟩).memory := 
  (LaidIn.of_run (l := [("satchel/code.errnos", Rows.laid_satchel_code_errnos), ("satchel/digest.begin", Rows.laid_satchel_digest_begin), ("satchel/digest.rounds", Rows.laid_satchel_digest_rounds)]) [3, 0, 1] 8 (by kernel_rfl) (by kernel_rfl) (by kernel_rfl) (by kernel_rfl)).met
set_option maxRecDepth 100000 in
/-- WHAT THE WALK GIVES, for every argument and every world that holds the tables. -/
theorem contract (H : Type) (enc : TypeId × Value → H) (W : World) (base : Nat) (args : Array Value) (ds gs : List (DataW H)) (before : List MemPlace)
    (hval : ∀ (j : Nat) t v, Tryd.f3.params[j]? = some t → args[j]? = some v → Value.okWide Tryd.prog W .any base t v)
    (hW : DataW.Whole enc Tryd.prog Tryd.f3.params.toList Rows.storeFullSpec.vars false W args.toList ds gs before)
    (hT : Tabs bgs (fun t => rks.getD t 0) W ∧ W.cell? ⟨3, 0, none⟩ = some (.int .i64 0)) :
    Calls Tryd.prog 3 args W fun e W' => ∃ v, e = .returned v ∧ Rows.storeFullSpec.post enc Tryd.prog Tryd.f3 false true false false W args v W' := by
  have hW' := hW
  have hlt := hW.lt
  obtain ⟨p, q, hA0, hV, rfl, hfz, hnd⟩ := hW
  have hA : DataW.TrodAll enc Tryd.prog W 0 (fun _ => true) true Tryd.f3.params.toList args.toList ds p := hA0
  rw [Tryd.params3] at hA hval
  obtain ⟨v0, d0, rfl, rfl, h0⟩ := trodAll_one hA
  obtain ⟨rfl, rfl⟩ := trodVars_none hV
  have hok := hval 0 24 v0 rfl rfl
  clear hA0 hval
  simp only [List.append_nil] at hW' hlt
  have fin : ∀ W', Below W.heap.size W W' → Rows.storeFullSpec.post enc Tryd.prog Tryd.f3 false true false false W #[v0] (.bool true) W' := fun W' bel =>
    ⟨_, _, _, [], _, [], hW', trodAll_mk1 (shut_bool Tryd.underlying4 _), trodAll_mk1 (Below.trod (by kernel_rfl) (by kernel_rfl) (of_decide_eq_true (by kernel_rfl)) h0 bel hlt), rfl, bel.frame _, fun h => by cases h⟩
  obtain ⟨x0, x1, y0, y1, n, rfl, rfl, rfl, hx0, hx1⟩ := Joins.open_agg2 Tryd.underlying24 (by kernel_rfl) (by kernel_rfl) hok h0
  obtain ⟨sd, e0, _, _⟩ := DataW.trod_int Tryd.underlying22 hx0
  obtain rfl : x0 = .int .u64 sd := by simpa using e0
  obtain ⟨nn, e1, _, _⟩ := DataW.trod_int Tryd.underlying3 hx1
  obtain rfl : x1 = .int .i64 nn := by simpa using e1
  refine (full_walk bgs _ sd nn W hT.1 hT.2).mono fun e W' ⟨he, bel⟩ => ?_
  subst he
  exact ⟨_, rfl, fin W' bel⟩

theorem witness_row (os : Os) {H : Type} (enc : TypeId × Value → H) :
    (OpenSpec.ofChange Rows.storeFullSpec).preRow enc Tryd.prog Tryd.f3 Rows.storeFullRow.domain false Rows.storeFullRow.laid ((laidWorld os).forCall (fun _ _ => 0) ⟨#[], #[.agg #[.int .u64 0, .int .i64 0]], []⟩).memory #[.agg #[.int .u64 0, .int .i64 0]] := by
  have hw : (DataW.whole enc Tryd.prog ((laidWorld os).forCall (fun _ _ => 0) ⟨#[], #[.agg #[.int .u64 0, .int .i64 0]], []⟩).memory Tryd.f3.params.toList Rows.storeFullSpec.vars false #[Value.agg #[.int .u64 0, .int .i64 0]].toList 8).map (fun x => (x.1, x.2.1)) =
      some ([.agg [.lit (.int .u64 0), .lit (.int .i64 0)]], []) := by kernel_rfl
  obtain ⟨⟨x1, x2, x3⟩, hx, hx1⟩ := Option.map_eq_some_iff.1 hw
  simp only [Prod.mk.injEq] at hx1
  obtain ⟨rfl, rfl⟩ := hx1
  exact OpenSpec.preRow_of_cond 8 hx (by kernel_rfl) (fun k hk => by cases hk) (by kernel_rfl) (laid_met os _)

set_option maxRecDepth 100000 in
set_option maxHeartbeats 2000000 in
theorem lifted (os : Os) (started : os.Started) (H : Type) (enc : TypeId × Value → H) (F : Stop.Interp) :
    ReturnsInHanded {} Tryd.checked os 3 .any ((OpenSpec.ofChange Rows.storeFullSpec).preRow enc Tryd.prog Tryd.f3 Rows.storeFullRow.domain false Rows.storeFullRow.laid) (((OpenSpec.ofChange Rows.storeFullSpec).at F).post enc Tryd.prog Tryd.f3 false true false false) := by
  refine returnsInHanded_of_row (C := Tryd.checked) (s := OpenSpec.ofChange Rows.storeFullSpec) own started (by kernel_rfl) Tryd.func3
    (witness_row_atRef (enc := enc) (C := Tryd.checked) false (laidWorld os) #[.agg #[.int .u64 0, .int .i64 0]] rfl (by kernel_rfl) (by kernel_rfl) (by kernel_rfl) (witness_row os enc)) ?_
  intro W base args ds gs before hval hW _ _ hz hL _ _
  exact contract H enc W base args ds gs before hval hW (tabs_of_laid hL)

theorem said : Rows.StoreFullSaid :=
  OpenClaim.holds_of_cond 3 Tryd.f3 rfl rfl rfl rfl rfl rfl rfl ⟨rfl, rfl, rfl, rfl, rfl⟩ rfl rfl rfl rfl rfl (by kernel_rfl) Tryd.func3 (by kernel_rfl)
    (of_decide_eq_true (by kernel_rfl)) (by unfold Func.isWrapper; first | (rw [if_pos (by decide +kernel)]; kernel_rfl) | (rw [if_neg (by decide +kernel)]; exact ⟨rfl, rfl⟩))
    (fun os started H enc _ F => by rw [OpenClaim.pre_eq_preRow]; exact lifted os started H enc F)

theorem plain (f : FuncId) (fn : Func) (hf : Tryd.pinned.checked.prog.funcNamed "satchel/satchellaw4.StoreFull" = some f) (hfn : Tryd.pinned.checked.prog.funcs[f]? = some fn) :
    true = Tryd.pinned.checked.prog.looks [] ∧ ∀ (j : Nat) t, fn.params[j]? = some t → Tryd.pinned.checked.prog.wantsStandIn t = false := by
  obtain rfl : f = 3 := Option.some.inj ((show Tryd.prog.funcNamed "satchel/satchellaw4.StoreFull" = some 3 by kernel_rfl).symm.trans hf) |>.symm
  obtain rfl : fn = Tryd.f3 := (Option.some.inj (Tryd.func3.symm.trans hfn)).symm
  refine ⟨by kernel_rfl, fun j t ht => ?_⟩
  rw [Tryd.params3] at ht
  obtain rfl : t = 24 := by simpa using Array.mem_of_getElem? ht
  exact (show Tryd.prog.wantsStandIn 24 = false by kernel_rfl)
end Go.Proofs.YtfbkkcigkpffiaaDoor.St
namespace Go.Proofs.YtfbkkcigkpffiaaDoor
theorem storeFull_card : Rows.StoreFullCardSaid :=
  Claim7.holds_tied_plain_at .later [] _ _ _ _ St.said (fun _ h => by cases h) (by kernel_rfl) (fun _ h => by cases h) storeFull_row_tie rfl ⟨rfl, rfl⟩ (by kernel_rfl) rfl St.plain (by kernel_rfl)
#print axioms storeFull_card
end Go.Proofs.YtfbkkcigkpffiaaDoor
