/- errors.as, errors.As and api.Code at a chain of Faults. Condition: the variable errors.errorType holds its handle. -/
import Derived.Test.YtnolfopgijgpcaaDoorAs
namespace Go.Proofs.YtnolfopgijgpcaaDoor.As
open Go.RowKit Go.Extern.Stop Go.Stop Go.Extern

theorem noAsF (v : Value) (xT : TypeId) (w : World) : (Instr.typeAssert (.iface 32 v) xT 115 true).run Tryd.prog w = .ok (.tuple #[.nilIface, .bool false]) w := run_typeAssert_lacksB Tryd.underlying115 (by kernel_rfl) (by kernel_rfl) v xT w
theorem hasUnwrapF (v : Value) (xT : TypeId) (w : World) : (Instr.typeAssert (.iface 32 v) xT 118 true).run Tryd.prog w = .ok (.tuple #[.iface 32 v, .bool true]) w := run_typeAssert_hasB Tryd.underlying118 (by kernel_rfl) v xT w
theorem methodUnwrap (f : Addr) (w : World) : (Go.method 261 32 (.pointer (some f)) "Unwrap").run Tryd.prog w = .ok (93, .pointer (some f)) w := by kernel_rfl
theorem nilAheadUnwrap (f : Addr) (w : World) : (nilAhead 261 32 (.pointer (some f)) "Unwrap").run Tryd.prog w = .ok (some false) w := by kernel_rfl

theorem lt_of_cell {w : World} {a : Addr} {v : Value} (ha : w.cell? a = some v) : a.block < w.heap.size := by
  rcases Nat.lt_or_ge a.block w.heap.size with h | h
  · exact h
  · simp [World.cell?, Array.getElem?_eq_none h] at ha
set_option maxRecDepth 100000 in
set_option maxHeartbeats 4000000 in
theorem as0 (n : Int) (a t : Addr) (old : Value) (w : World) (ha : w.cell? a = some (.pointer (some t))) (ht0 : w.cell? t = some old) (hf0 : w.frozen? t = false) :
    Calls Tryd.prog 53 #[.iface 25 (.int .i64 n), .iface 63 (.pointer (some t)), .agg #[tP, .pointer (some a), .int .u64 150], .iface 110 (.agg #[tE])] w fun ev w' => ev = .returned (.bool true) ∧ w' = ((w.alloc (.cells #[tP, .pointer (some a), .int .u64 150] 93)).alloc (.cells #[.int .i64 n] 25)).setCell t (.int .i64 n) := by
  have h50 := @run_callFunc_extern Tryd.prog 50 _ (fun args => ReflectliteValue.unpack (args.getD 0 (.tuple #[]))) Tryd.func50 (by kernel_rfl) (by kernel_rfl) (by kernel_rfl) (by kernel_rfl)
  have h61 := @run_callFunc_extern Tryd.prog 61 _ ReflectliteType.typeOf Tryd.func61 (by kernel_rfl) (by kernel_rfl) (by kernel_rfl) (by kernel_rfl)
  have h98 := @run_callFunc_extern Tryd.prog 98 _ (ReflectliteType.relation "AssignableTo" ReflectliteType.assignableTo) Tryd.func98 (by kernel_rfl) (by kernel_rfl) (by kernel_rfl) (by kernel_rfl)
  have h62 := @run_callFunc_extern Tryd.prog 62 _ (ReflectliteValue.method (ReflectliteValue.valueError "reflectlite.Value.Elem" 0) ReflectliteValue.elem) Tryd.func62 (by kernel_rfl) (by kernel_rfl) (by kernel_rfl) (by kernel_rfl)
  have h63 := @run_callFunc_extern Tryd.prog 63 _ ReflectliteValue.set Tryd.func63 (by kernel_rfl) (by kernel_rfl) (by kernel_rfl) (by kernel_rfl)
  have tO := typeOfE
  have tO' := typeOfF
  have mA := methodAssignableTo
  have aE := assignableE
  have aF := assignableF
  have vE := valueOfE
  have nA := noAsF
  have hU := hasUnwrapF
  have mU := methodUnwrap
  have nU := nilAheadUnwrap
  have hal := lt_of_cell ha
  have htl := lt_of_cell ht0
  have el := elemV a t (w.alloc (.cells #[tP, .pointer (some a), .int .u64 150] 93)) (by rw [World.cell?_alloc_lt _ _ a hal]; exact ha)
  have st := setE t ⟨w.heap.size + 1, 0, none⟩ n old ((w.alloc (.cells #[tP, .pointer (some a), .int .u64 150] 93)).alloc (.cells #[.int .i64 n] 25))
    (by rw [World.cell?_alloc_at _ _ _ _ (by simp)]; rfl)
    (by rw [World.cell?_alloc_lt _ _ t (by simp; omega), World.cell?_alloc_lt _ _ t htl]; exact ht0)
    (by rw [World.frozen?_alloc_old _ _ t (by simp; omega), World.frozen?_alloc_old _ _ t (Nat.ne_of_lt htl)]; exact hf0)
  go_enter Tryd.func53, Tryd.ntmps53
  go_wp2_with fail
  refine wp_loop_rounds 1 ?_
  rw [rounds_succ]
  go_wp2_with fail
  go_ret
  exact ⟨rfl, rfl⟩

set_option maxRecDepth 100000 in
set_option maxHeartbeats 4000000 in
theorem as1 (n : Int) (f0 : Addr) (a t : Addr) (old : Value) (w : World) (h0 : w.cell? ⟨f0.block, f0.off + 3, none⟩ = some (.iface 25 (.int .i64 n))) (ha : w.cell? a = some (.pointer (some t))) (ht0 : w.cell? t = some old) (hf0 : w.frozen? t = false) :
    Calls Tryd.prog 53 #[.iface 32 (.pointer (some f0)), .iface 63 (.pointer (some t)), .agg #[tP, .pointer (some a), .int .u64 150], .iface 110 (.agg #[tE])] w fun ev w' => ev = .returned (.bool true) ∧ w' = ((w.alloc (.cells #[tP, .pointer (some a), .int .u64 150] 93)).alloc (.cells #[.int .i64 n] 25)).setCell t (.int .i64 n) := by
  have h50 := @run_callFunc_extern Tryd.prog 50 _ (fun args => ReflectliteValue.unpack (args.getD 0 (.tuple #[]))) Tryd.func50 (by kernel_rfl) (by kernel_rfl) (by kernel_rfl) (by kernel_rfl)
  have h61 := @run_callFunc_extern Tryd.prog 61 _ ReflectliteType.typeOf Tryd.func61 (by kernel_rfl) (by kernel_rfl) (by kernel_rfl) (by kernel_rfl)
  have h98 := @run_callFunc_extern Tryd.prog 98 _ (ReflectliteType.relation "AssignableTo" ReflectliteType.assignableTo) Tryd.func98 (by kernel_rfl) (by kernel_rfl) (by kernel_rfl) (by kernel_rfl)
  have h62 := @run_callFunc_extern Tryd.prog 62 _ (ReflectliteValue.method (ReflectliteValue.valueError "reflectlite.Value.Elem" 0) ReflectliteValue.elem) Tryd.func62 (by kernel_rfl) (by kernel_rfl) (by kernel_rfl) (by kernel_rfl)
  have h63 := @run_callFunc_extern Tryd.prog 63 _ ReflectliteValue.set Tryd.func63 (by kernel_rfl) (by kernel_rfl) (by kernel_rfl) (by kernel_rfl)
  have tO := typeOfE
  have tO' := typeOfF
  have mA := methodAssignableTo
  have aE := assignableE
  have aF := assignableF
  have vE := valueOfE
  have nA := noAsF
  have hU := hasUnwrapF
  have mU := methodUnwrap
  have nU := nilAheadUnwrap
  have hal := lt_of_cell ha
  have htl := lt_of_cell ht0
  have el := elemV a t (w.alloc (.cells #[tP, .pointer (some a), .int .u64 150] 93)) (by rw [World.cell?_alloc_lt _ _ a hal]; exact ha)
  have st := setE t ⟨w.heap.size + 1, 0, none⟩ n old ((w.alloc (.cells #[tP, .pointer (some a), .int .u64 150] 93)).alloc (.cells #[.int .i64 n] 25))
    (by rw [World.cell?_alloc_at _ _ _ _ (by simp)]; rfl)
    (by rw [World.cell?_alloc_lt _ _ t (by simp; omega), World.cell?_alloc_lt _ _ t htl]; exact ht0)
    (by rw [World.frozen?_alloc_old _ _ t (by simp; omega), World.frozen?_alloc_old _ _ t (Nat.ne_of_lt htl)]; exact hf0)
  have hw0 : (w.alloc (.cells #[tP, .pointer (some a), .int .u64 150] 93)).cell? ⟨f0.block, f0.off + 3, none⟩ = some (.iface 25 (.int .i64 n)) := by rw [World.cell?_alloc_lt _ _ _ (lt_of_cell h0)]; exact h0
  clear h0
  go_enter Tryd.func53, Tryd.ntmps53
  go_wp2_with fail
  refine wp_loop_rounds 2 ?_
  rw [rounds_succ]
  go_wp2_with fail
  refine (unwrap_any f0 _ _ hw0).mono ?_
  rintro e w' ⟨rfl, rfl⟩
  go_wp2_with fail
  rw [rounds_succ]
  go_wp2_with fail
  go_ret
  exact ⟨rfl, rfl⟩

set_option maxRecDepth 100000 in
set_option maxHeartbeats 4000000 in
theorem as2 (n : Int) (f0 f1 : Addr) (a t : Addr) (old : Value) (w : World) (h0 : w.cell? ⟨f0.block, f0.off + 3, none⟩ = some (.iface 32 (.pointer (some f1)))) (h1 : w.cell? ⟨f1.block, f1.off + 3, none⟩ = some (.iface 25 (.int .i64 n))) (ha : w.cell? a = some (.pointer (some t))) (ht0 : w.cell? t = some old) (hf0 : w.frozen? t = false) :
    Calls Tryd.prog 53 #[.iface 32 (.pointer (some f0)), .iface 63 (.pointer (some t)), .agg #[tP, .pointer (some a), .int .u64 150], .iface 110 (.agg #[tE])] w fun ev w' => ev = .returned (.bool true) ∧ w' = ((w.alloc (.cells #[tP, .pointer (some a), .int .u64 150] 93)).alloc (.cells #[.int .i64 n] 25)).setCell t (.int .i64 n) := by
  have h50 := @run_callFunc_extern Tryd.prog 50 _ (fun args => ReflectliteValue.unpack (args.getD 0 (.tuple #[]))) Tryd.func50 (by kernel_rfl) (by kernel_rfl) (by kernel_rfl) (by kernel_rfl)
  have h61 := @run_callFunc_extern Tryd.prog 61 _ ReflectliteType.typeOf Tryd.func61 (by kernel_rfl) (by kernel_rfl) (by kernel_rfl) (by kernel_rfl)
  have h98 := @run_callFunc_extern Tryd.prog 98 _ (ReflectliteType.relation "AssignableTo" ReflectliteType.assignableTo) Tryd.func98 (by kernel_rfl) (by kernel_rfl) (by kernel_rfl) (by kernel_rfl)
  have h62 := @run_callFunc_extern Tryd.prog 62 _ (ReflectliteValue.method (ReflectliteValue.valueError "reflectlite.Value.Elem" 0) ReflectliteValue.elem) Tryd.func62 (by kernel_rfl) (by kernel_rfl) (by kernel_rfl) (by kernel_rfl)
  have h63 := @run_callFunc_extern Tryd.prog 63 _ ReflectliteValue.set Tryd.func63 (by kernel_rfl) (by kernel_rfl) (by kernel_rfl) (by kernel_rfl)
  have tO := typeOfE
  have tO' := typeOfF
  have mA := methodAssignableTo
  have aE := assignableE
  have aF := assignableF
  have vE := valueOfE
  have nA := noAsF
  have hU := hasUnwrapF
  have mU := methodUnwrap
  have nU := nilAheadUnwrap
  have hal := lt_of_cell ha
  have htl := lt_of_cell ht0
  have el := elemV a t (w.alloc (.cells #[tP, .pointer (some a), .int .u64 150] 93)) (by rw [World.cell?_alloc_lt _ _ a hal]; exact ha)
  have st := setE t ⟨w.heap.size + 1, 0, none⟩ n old ((w.alloc (.cells #[tP, .pointer (some a), .int .u64 150] 93)).alloc (.cells #[.int .i64 n] 25))
    (by rw [World.cell?_alloc_at _ _ _ _ (by simp)]; rfl)
    (by rw [World.cell?_alloc_lt _ _ t (by simp; omega), World.cell?_alloc_lt _ _ t htl]; exact ht0)
    (by rw [World.frozen?_alloc_old _ _ t (by simp; omega), World.frozen?_alloc_old _ _ t (Nat.ne_of_lt htl)]; exact hf0)
  have hw0 : (w.alloc (.cells #[tP, .pointer (some a), .int .u64 150] 93)).cell? ⟨f0.block, f0.off + 3, none⟩ = some (.iface 32 (.pointer (some f1))) := by rw [World.cell?_alloc_lt _ _ _ (lt_of_cell h0)]; exact h0
  clear h0
  have hw1 : (w.alloc (.cells #[tP, .pointer (some a), .int .u64 150] 93)).cell? ⟨f1.block, f1.off + 3, none⟩ = some (.iface 25 (.int .i64 n)) := by rw [World.cell?_alloc_lt _ _ _ (lt_of_cell h1)]; exact h1
  clear h1
  go_enter Tryd.func53, Tryd.ntmps53
  go_wp2_with fail
  refine wp_loop_rounds 3 ?_
  rw [rounds_succ]
  go_wp2_with fail
  refine (unwrap_any f0 _ _ hw0).mono ?_
  rintro e w' ⟨rfl, rfl⟩
  go_wp2_with fail
  rw [rounds_succ]
  go_wp2_with fail
  refine (unwrap_any f1 _ _ hw1).mono ?_
  rintro e w' ⟨rfl, rfl⟩
  go_wp2_with fail
  rw [rounds_succ]
  go_wp2_with fail
  go_ret
  exact ⟨rfl, rfl⟩

set_option maxRecDepth 100000 in
set_option maxHeartbeats 4000000 in
theorem asNil (f0 : Addr) (a t : Addr) (w : World) (h0 : w.cell? ⟨f0.block, f0.off + 3, none⟩ = some (.nilIface))  :
    Calls Tryd.prog 53 #[.iface 32 (.pointer (some f0)), .iface 63 (.pointer (some t)), .agg #[tP, .pointer (some a), .int .u64 150], .iface 110 (.agg #[tE])] w fun ev w' => ev = .returned (.bool false) ∧ w' = (w.alloc (.cells #[tP, .pointer (some a), .int .u64 150] 93)) := by
  have h50 := @run_callFunc_extern Tryd.prog 50 _ (fun args => ReflectliteValue.unpack (args.getD 0 (.tuple #[]))) Tryd.func50 (by kernel_rfl) (by kernel_rfl) (by kernel_rfl) (by kernel_rfl)
  have h61 := @run_callFunc_extern Tryd.prog 61 _ ReflectliteType.typeOf Tryd.func61 (by kernel_rfl) (by kernel_rfl) (by kernel_rfl) (by kernel_rfl)
  have h98 := @run_callFunc_extern Tryd.prog 98 _ (ReflectliteType.relation "AssignableTo" ReflectliteType.assignableTo) Tryd.func98 (by kernel_rfl) (by kernel_rfl) (by kernel_rfl) (by kernel_rfl)
  have h62 := @run_callFunc_extern Tryd.prog 62 _ (ReflectliteValue.method (ReflectliteValue.valueError "reflectlite.Value.Elem" 0) ReflectliteValue.elem) Tryd.func62 (by kernel_rfl) (by kernel_rfl) (by kernel_rfl) (by kernel_rfl)
  have h63 := @run_callFunc_extern Tryd.prog 63 _ ReflectliteValue.set Tryd.func63 (by kernel_rfl) (by kernel_rfl) (by kernel_rfl) (by kernel_rfl)
  have tO := typeOfE
  have tO' := typeOfF
  have mA := methodAssignableTo
  have aE := assignableE
  have aF := assignableF
  have vE := valueOfE
  have nA := noAsF
  have hU := hasUnwrapF
  have mU := methodUnwrap
  have nU := nilAheadUnwrap
  have hw0 : (w.alloc (.cells #[tP, .pointer (some a), .int .u64 150] 93)).cell? ⟨f0.block, f0.off + 3, none⟩ = some (.nilIface) := by rw [World.cell?_alloc_lt _ _ _ (lt_of_cell h0)]; exact h0
  clear h0
  go_enter Tryd.func53, Tryd.ntmps53
  go_wp2_with fail
  refine wp_loop_rounds 2 ?_
  rw [rounds_succ]
  go_wp2_with fail
  refine (unwrap_any f0 _ _ hw0).mono ?_
  rintro e w' ⟨rfl, rfl⟩
  go_wp2_with fail
  go_ret
  exact ⟨rfl, rfl⟩

end Go.Proofs.YtnolfopgijgpcaaDoor.As
