/- The three listed variables: what they hold, a world that holds it. -/
import Derived.Test.YtfbkkcigkpffiaaDoorGd
import Derived.Test.YtfbkkcigkpffiaaDoorRows
import Derived.Lib.LaidIn
import Derived.Lib.LaidTab
import Derived.Lib.LaidU8T
import Derived.Lib.SmallJoins
import Derived.Deep.Matrix
import Derived.Deep.DeepHandedRow
import Derived.Deep.DeepWitnessRowRef
import Derived.ProofKit
import Derived.SizedLaws
import Derived.OpenShut
import Derived.Carry
import Derived.SevenTiedAt
namespace Go.Proofs.YtfbkkcigkpffiaaDoor.St
set_option linter.unusedVariables false
open Go.Shelf Go.ChangeShapes Go.WideShapes Go.ChangeAt Go.RowKit Go.Lib Go.Deep
open Go.Proofs.YtfbkkcigkpffiaaDoorW.PrintWords

theorem own : ownKnob Tryd.prog.godebug = none := by kernel_rfl
/-- The integers of a datum. -/
def ints {H : Type} : DataW H → List Int
  | .agg l => l.map fun d => match d with
    | .lit (.int _ n) => n
    | _ => 0
  | _ => []
def bgs : List Int := ints (Rows.laid_satchel_digest_begin : DataW Unit)
def rks : List Int := ints (Rows.laid_satchel_digest_rounds : DataW Unit)
def ers : List Int := ints (Rows.laid_satchel_code_errnos : DataW Unit)
theorem begin_eq : (Rows.laid_satchel_digest_begin : DataW Unit) = tabData .u32 bgs := by kernel_rfl
theorem rounds_eq : (Rows.laid_satchel_digest_rounds : DataW Unit) = tabData .u32 rks := by kernel_rfl
theorem errnos_eq : (Rows.laid_satchel_code_errnos : DataW Unit) = tabData .i64 ers := by kernel_rfl
theorem bgs_len : bgs.length = 8 := by kernel_rfl
theorem rks_len : rks.length = 64 := by kernel_rfl
theorem ers_head : ers[0]? = some 0 := by kernel_rfl
/-- A table's cells, out of what its variable reads as. -/
theorem cell_of_tab {W : World} {n : String} {g t e m : Nat} {k : IntKind} {zs : List Int} (hg : Tryd.prog.globalNamed n = some g) (hty : (Tryd.prog.globals[g]?).map (·.type) = some t) (ht : Tryd.prog.underlying t = some (.array m e))
    (he : Tryd.prog.underlying e = some (.int k)) (hce : Tryd.prog.cellsOf e = 1) (hct : Tryd.prog.cellsOf t = m) (h : VarReads Tryd.prog W n (tabData k zs)) (i : Nat) : W.cell? ⟨g, i, none⟩ = (zs[i]?).map (Value.int k) := by
  obtain ⟨g', t', cs, fuel, p, hg', hty', hvar, hd⟩ := h
  obtain rfl := Option.some.inj (hg.symm.trans hg')
  obtain rfl := Option.some.inj (hty.symm.trans hty')
  have hcs := cells_of_tab ht he hce hct hd
  rw [World.var?_cell hg hvar i, ← Array.getElem?_toList, hcs, List.getElem?_map]
theorem tabs_of_laid {W : World} (hL : laidMet Tryd.prog [("satchel/code.errnos", Rows.laid_satchel_code_errnos), ("satchel/digest.begin", Rows.laid_satchel_digest_begin), ("satchel/digest.rounds", Rows.laid_satchel_digest_rounds)] W) :
    Tabs bgs (fun t => rks.getD t 0) W ∧ W.cell? ⟨3, 0, none⟩ = some (.int .i64 0) := by
  have h1 := Lib.laidMet.reads hL (.head _)
  have h2 := Lib.laidMet.reads hL (.tail _ (.head _))
  have h3 := Lib.laidMet.reads hL (.tail _ (.tail _ (.head _)))
  rw [errnos_eq] at h1
  rw [begin_eq] at h2
  rw [rounds_eq] at h3
  refine ⟨⟨bgs_len, fun t ht => ?_, fun t ht => ?_⟩, ?_⟩
  · rw [cell_of_tab (g := 0) (t := 109) (by kernel_rfl) (by kernel_rfl) Tryd.underlying109 Tryd.underlying108 (by kernel_rfl) (by kernel_rfl) h2 t, List.getElem?_eq_getElem (by rw [bgs_len]; exact ht), List.getD_eq_getElem?_getD, List.getElem?_eq_getElem (by rw [bgs_len]; exact ht)]
    rfl
  · rw [cell_of_tab (g := 1) (t := 137) (by kernel_rfl) (by kernel_rfl) Tryd.underlying137 Tryd.underlying108 (by kernel_rfl) (by kernel_rfl) h3 t, List.getElem?_eq_getElem (by rw [rks_len]; exact ht)]
    simp only [List.getD_eq_getElem?_getD, List.getElem?_eq_getElem (show t < rks.length by rw [rks_len]; exact ht)]
    rfl
  · rw [cell_of_tab (g := 3) (t := 145) (m := 5) (e := 36) (by kernel_rfl) (by kernel_rfl) (by kernel_rfl) Tryd.underlying36 (by kernel_rfl) (by kernel_rfl) h1 0, ers_head]
    rfl
/-- THE WITNESS: the settled world, the three variables holding what their initialisers lay. -/
noncomputable def laidWorld (os : Os) : World :=
  let w0 := World.holding Tryd.prog os ⟨#[], #[], []⟩
  let put (h : Array Obj) (g : Nat) (cs : Array Value) : Array Obj := h.modify g fun
    | .cells _ t frozen => .cells cs t frozen
    | o => o
  let h1 := put w0.heap 0 (bgs.map fun z => Value.int .u32 z).toArray
  let h2 := put h1 1 (rks.map fun z => Value.int .u32 z).toArray
  let h3 := put h2 3 (ers.map fun z => Value.int .i64 z).toArray
  { w0 with heap := h3 }
theorem laid_met (os : Os) (args : Array Value) : laidMet Tryd.prog [("satchel/code.errnos", Rows.laid_satchel_code_errnos), ("satchel/digest.begin", Rows.laid_satchel_digest_begin), ("satchel/digest.rounds", Rows.laid_satchel_digest_rounds)] ((laidWorld os).forCall (fun _ _ => 0) ⟨#[], args, []⟩).memory := 
  (LaidIn.of_run (l := [("satchel/code.errnos", Rows.laid_satchel_code_errnos), ("satchel/digest.begin", Rows.laid_satchel_digest_begin), ("satchel/digest.rounds", Rows.laid_satchel_digest_rounds)]) [3, 0, 1] 8 (by kernel_rfl) (by kernel_rfl) (by kernel_rfl) (by kernel_rfl)).met
end Go.Proofs.YtfbkkcigkpffiaaDoor.St
