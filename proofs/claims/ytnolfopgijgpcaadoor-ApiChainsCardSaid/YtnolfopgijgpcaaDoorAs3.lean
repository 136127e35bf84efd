/- errors.As and api.Code at a chain of Faults. Condition: the variable errors.errorType holds its handle. -/
import Derived.Test.YtnolfopgijgpcaaDoorAs2
import Derived.Below
import Derived.Lib.Hide
import Derived.Outline
namespace Go.Proofs.YtnolfopgijgpcaaDoor.As
open Go.RowKit Go.Extern.Stop Go.Stop Go.Extern

abbrev W1 (w : World) (t : Addr) : World := (w.alloc (.cells #[.pointer (some t)] 63)).alloc (.cells #[tP, .pointer (some ⟨w.heap.size, 0, none⟩), .int .u64 150] 93)

set_option maxRecDepth 100000 in
set_option maxHeartbeats 4000000 in
theorem As_any (T : TypeId) (v : Value) (t : Addr) (w : World) (b : Bool) (S : World → Prop) (hg : w.cell? ⟨2, 0, none⟩ = some (.iface 110 (.agg #[tErr])))
    (h53 : Hid (Calls Tryd.prog 53 #[.iface T v, .iface 63 (.pointer (some t)), .agg #[tP, .pointer (some ⟨w.heap.size, 0, none⟩), .int .u64 150], .iface 110 (.agg #[tE])] (W1 w t) fun ev w' => ev = .returned (.bool b) ∧ S w')) :
    Calls Tryd.prog 31 #[.iface T v, .iface 63 (.pointer (some t))] w fun ev w' => ev = .returned (.bool b) ∧ S w' := by
  have h50 := @run_callFunc_extern Tryd.prog 50 _ (fun args => ReflectliteValue.unpack (args.getD 0 (.tuple #[]))) Tryd.func50 (by kernel_rfl) (by kernel_rfl) (by kernel_rfl) (by kernel_rfl)
  have h51 := @run_callFunc_extern Tryd.prog 51 _ (ReflectliteValue.methodAny (ReflectliteValue.valueError "reflectlite.Value.Type" 0) (fun t _ _ _ => ReflectliteType.toType t)) Tryd.func51 (by kernel_rfl) (by kernel_rfl) (by kernel_rfl) (by kernel_rfl)
  have h52 := @run_callFunc_extern Tryd.prog 52 _ (ReflectliteValue.method (ReflectliteValue.valueError "reflectlite.Value.IsNil" 0) ReflectliteValue.isNil) Tryd.func52 (by kernel_rfl) (by kernel_rfl) (by kernel_rfl) (by kernel_rfl)
  have h88 := @run_callFunc_extern Tryd.prog 88 _ (ReflectliteType.abiMethod fun t => do pure (.int .u8 (← Rtype.kind t))) Tryd.func88 (by kernel_rfl) (by kernel_rfl) (by kernel_rfl) (by kernel_rfl)
  have h100 := @run_callFunc_extern Tryd.prog 100 _ (ReflectliteType.method ReflectliteType.elem) Tryd.func100 (by kernel_rfl) (by kernel_rfl) (by kernel_rfl) (by kernel_rfl)
  have h101 := @run_callFunc_extern Tryd.prog 101 _ (ReflectliteType.relation "Implements" ReflectliteType.implements_) Tryd.func101 (by kernel_rfl) (by kernel_rfl) (by kernel_rfl) (by kernel_rfl)
  have f6 := valueOfP
  have f7 := typeP
  have mK := methodKind
  have mE := methodElem
  have mI := methodImplements
  have kP := kindP
  have kE := kindE
  have eP := elemP
  have iE := implementsE
  have n8 := isNilP ⟨w.heap.size, 0, none⟩ t (W1 w t) (by simp)
  have hg2 : (W1 w t).cell? ⟨2, 0, none⟩ = some (.iface 110 (.agg #[tErr])) := by
    have hlt : 2 < w.heap.size := lt_of_cell hg
    rw [World.cell?_alloc_lt _ _ ⟨2, 0, none⟩ (by simp; omega), World.cell?_alloc_lt _ _ ⟨2, 0, none⟩ hlt]; exact hg
  clear hg
  go_enter Tryd.func31, Tryd.ntmps31
  go_wp2_with fail
  refine h53.out.mono ?_
  rintro e w' ⟨rfl, hS⟩
  go_wp2_with fail
  go_ret
  exact ⟨rfl, hS⟩

/-- What api.Code wants of errors.as at this error: it finds n, puts it at t, and turns nothing below t's block. -/
def Finds (e : Value) (n : Int) (w : World) : Prop :=
  ∀ W : World, Below w.heap.size w W → ∀ (a t : Addr), W.cell? a = some (.pointer (some t)) → W.cell? t = some (.int .i64 0) → W.frozen? t = false → w.heap.size ≤ t.block →
    Calls Tryd.prog 53 #[e, .iface 63 (.pointer (some t)), .agg #[tP, .pointer (some a), .int .u64 150], .iface 110 (.agg #[tE])] W fun ev w' => ev = .returned (.bool true) ∧ (w'.cell? t = some (.int .i64 n) ∧ Below w.heap.size w w')
def FindsNot (e : Value) (w : World) : Prop :=
  ∀ W : World, Below w.heap.size w W → ∀ (a t : Addr), 
    Calls Tryd.prog 53 #[e, .iface 63 (.pointer (some t)), .agg #[tP, .pointer (some a), .int .u64 150], .iface 110 (.agg #[tE])] W fun ev w' => ev = .returned (.bool false) ∧ Below w.heap.size w w'

theorem post_found {w W : World} {a t : Addr} {n : Int} {old : Value} (hb : Below w.heap.size w W) (ht : W.cell? t = some old) (htb : w.heap.size ≤ t.block) :
    (((W.alloc (.cells #[tP, .pointer (some a), .int .u64 150] 93)).alloc (.cells #[.int .i64 n] 25)).setCell t (.int .i64 n)).cell? t = some (.int .i64 n) ∧
    Below w.heap.size w (((W.alloc (.cells #[tP, .pointer (some a), .int .u64 150] 93)).alloc (.cells #[.int .i64 n] 25)).setCell t (.int .i64 n)) := by
  have hl := lt_of_cell ht
  have hs := hb.size
  refine ⟨?_, ((hb.alloc hs _).alloc (by simp; omega) _).setCell htb _⟩
  have h1 : ((W.alloc (.cells #[tP, .pointer (some a), .int .u64 150] 93)).alloc (.cells #[.int .i64 n] 25)).cell? t = some old := by
    rw [World.cell?_alloc_lt _ _ t (by simp; omega), World.cell?_alloc_lt _ _ t hl]; exact ht
  exact World.cell?_setCell_same _ _ _ h1

theorem finds0 (n : Int) (w : World) : Finds (.iface 25 (.int .i64 n)) n w := by
  intro W hb a t ha ht hf htb
  refine (as0 n a t _ W ha ht hf).mono ?_
  rintro e w' ⟨rfl, rfl⟩
  exact ⟨rfl, post_found hb ht htb⟩
theorem finds1 (n : Int) (f : Addr) (w : World) (h0 : w.cell? ⟨f.block, f.off + 3, none⟩ = some (.iface 25 (.int .i64 n))) : Finds (.iface 32 (.pointer (some f))) n w := by
  intro W hb a t ha ht hf htb
  refine (as1 n f a t _ W (by rw [hb.cell (lt_of_cell h0)]; exact h0) ha ht hf).mono ?_
  rintro e w' ⟨rfl, rfl⟩
  exact ⟨rfl, post_found hb ht htb⟩
theorem finds2 (n : Int) (f g : Addr) (w : World) (h0 : w.cell? ⟨f.block, f.off + 3, none⟩ = some (.iface 32 (.pointer (some g)))) (h1 : w.cell? ⟨g.block, g.off + 3, none⟩ = some (.iface 25 (.int .i64 n))) : Finds (.iface 32 (.pointer (some f))) n w := by
  intro W hb a t ha ht hf htb
  refine (as2 n f g a t _ W (by rw [hb.cell (lt_of_cell h0)]; exact h0) (by rw [hb.cell (lt_of_cell h1)]; exact h1) ha ht hf).mono ?_
  rintro e w' ⟨rfl, rfl⟩
  exact ⟨rfl, post_found hb ht htb⟩
theorem findsNot (f : Addr) (w : World) (h0 : w.cell? ⟨f.block, f.off + 3, none⟩ = some .nilIface) : FindsNot (.iface 32 (.pointer (some f))) w := by
  intro W hb a t
  refine (asNil f a t W (by rw [hb.cell (lt_of_cell h0)]; exact h0)).mono ?_
  rintro e w' ⟨rfl, rfl⟩
  exact ⟨rfl, hb.alloc hb.size _⟩

/-- api.Code where errors.As finds n. -/
theorem code_some (T : TypeId) (v : Value) (n : Int) (w : World) (hg : w.cell? ⟨2, 0, none⟩ = some (.iface 110 (.agg #[tErr]))) (h53 : Hid (Finds (.iface T v) n w)) :
    Calls Tryd.prog 12 #[.iface T v] w fun ev w' => ev = .returned (.int .i64 n) ∧ Below w.heap.size w w' := by
  go_enter Tryd.func12, Tryd.ntmps12
  go_wp2_with fail
  have hg2 : (w.alloc (.cells #[.int .i64 0] 25)).cell? ⟨2, 0, none⟩ = some (.iface 110 (.agg #[tErr])) := by
    have hlt : 2 < w.heap.size := lt_of_cell hg
    rw [World.cell?_alloc_lt _ _ ⟨2, 0, none⟩ hlt]; exact hg
  have hb1 : Below w.heap.size w (W1 (w.alloc (.cells #[.int .i64 0] 25)) ⟨w.heap.size, 0, none⟩) := (((Below.refl _ _).alloc (by omega) _).alloc (by simp) _).alloc (by simp; omega) _
  have hc := h53.out _ hb1 ⟨w.heap.size + 1, 0, none⟩ ⟨w.heap.size, 0, none⟩ (by rw [World.cell?_alloc_lt _ _ _ (by simp), World.cell?_alloc_at _ _ _ _ (by simp)]; rfl) (by rw [World.cell?_alloc_lt _ _ _ (by simp; omega), World.cell?_alloc_lt _ _ _ (by simp)]; simp) (by rw [World.frozen?_alloc_old _ _ _ (by simp; omega), World.frozen?_alloc_old _ _ _ (by simp)]; simp) (Nat.le_refl _)
  have hc' : Calls Tryd.prog 53 #[.iface T v, .iface 63 (.pointer (some ⟨w.heap.size, 0, none⟩)), .agg #[tP, .pointer (some ⟨(w.alloc (.cells #[.int .i64 0] 25)).heap.size, 0, none⟩), .int .u64 150], .iface 110 (.agg #[tE])] (W1 (w.alloc (.cells #[.int .i64 0] 25)) ⟨w.heap.size, 0, none⟩)
      fun ev w' => ev = .returned (.bool true) ∧ (w'.cell? ⟨w.heap.size, 0, none⟩ = some (.int .i64 n) ∧ Below w.heap.size w w') := by rw [World.size_alloc]; exact hc
  refine (As_any T v ⟨w.heap.size, 0, none⟩ _ true _ hg2 (Lib.hid hc')).mono ?_
  rintro e w' ⟨rfl, hcell, hb⟩
  clear hc hc' hb1 hg2 hg
  have hB := Lib.hid hb
  clear hb
  go_wp2_with fail
  go_ret
  exact ⟨rfl, hB.out⟩
theorem code_none (T : TypeId) (v : Value) (w : World) (hg : w.cell? ⟨2, 0, none⟩ = some (.iface 110 (.agg #[tErr]))) (h53 : Hid (FindsNot (.iface T v) w)) :
    Calls Tryd.prog 12 #[.iface T v] w fun ev w' => ev = .returned (.int .i64 (-1)) ∧ Below w.heap.size w w' := by
  go_enter Tryd.func12, Tryd.ntmps12
  go_wp2_with fail
  have hg2 : (w.alloc (.cells #[.int .i64 0] 25)).cell? ⟨2, 0, none⟩ = some (.iface 110 (.agg #[tErr])) := by
    have hlt : 2 < w.heap.size := lt_of_cell hg
    rw [World.cell?_alloc_lt _ _ ⟨2, 0, none⟩ hlt]; exact hg
  have hb1 : Below w.heap.size w (W1 (w.alloc (.cells #[.int .i64 0] 25)) ⟨w.heap.size, 0, none⟩) := (((Below.refl _ _).alloc (by omega) _).alloc (by simp) _).alloc (by simp; omega) _
  have hc := h53.out _ hb1 ⟨(w.alloc (.cells #[.int .i64 0] 25)).heap.size, 0, none⟩ ⟨w.heap.size, 0, none⟩
  refine (As_any T v ⟨w.heap.size, 0, none⟩ _ false _ hg2 (Lib.hid hc)).mono ?_
  rintro e w' ⟨rfl, hb⟩
  clear hc hb1 hg2 hg
  have hB := Lib.hid hb
  clear hb
  go_wp2_with fail
  go_ret
  exact ⟨rfl, hB.out⟩
theorem code_nil (w : World) : Calls Tryd.prog 12 #[.nilIface] w fun ev w' => ev = .returned (.int .i64 0) ∧ w = w' := by
  go_enter Tryd.func12, Tryd.ntmps12
  go_wp2_with fail
  go_ret
  exact ⟨rfl, rfl⟩
theorem num_any (n : Int) (w : World) : Calls Tryd.prog 13 #[.int .i64 n] w fun e w' => e = .returned (.int .i64 n) ∧ w = w' := by
  go_enter Tryd.func13, Tryd.ntmps13
  go_wp2
  go_ret
  exact ⟨rfl, rfl⟩

abbrev o1 : Obj := .cells #[.string ⟨#[120]⟩, .int .i64 0, .slice none 0 0, .iface 25 (.int .i64 91)] 37
abbrev o2 (b : Nat) : Obj := .cells #[.string ⟨#[121]⟩, .int .i64 0, .slice none 0 0, .iface 32 (.pointer (some ⟨b, 0, none⟩))] 37
abbrev o3 : Obj := .cells #[.string ⟨#[122]⟩, .int .i64 0, .slice none 0 0, .nilIface] 37
abbrev W3 (w : World) : World := ((w.alloc o1).alloc (o2 w.heap.size)).alloc o3

theorem c1 {w w1 : World} (hb : Below (W3 w).heap.size (W3 w) w1) : w1.cell? ⟨w.heap.size, 0 + 3, none⟩ = some (.iface 25 (.int .i64 91)) := by
  rw [hb.cell (by simp; omega), World.cell?_alloc_lt _ _ _ (by simp; omega), World.cell?_alloc_lt _ _ _ (by simp), World.cell?_alloc_at _ _ _ _ rfl]; rfl
theorem c2 {w w1 : World} (hb : Below (W3 w).heap.size (W3 w) w1) : w1.cell? ⟨w.heap.size + 1, 0 + 3, none⟩ = some (.iface 32 (.pointer (some ⟨w.heap.size, 0, none⟩))) := by
  rw [hb.cell (by simp), World.cell?_alloc_lt _ _ _ (by simp), World.cell?_alloc_at _ _ _ _ (by simp)]; rfl
theorem c3 {w w1 : World} (hb : Below (W3 w).heap.size (W3 w) w1) : w1.cell? ⟨w.heap.size + 1 + 1, 0 + 3, none⟩ = some .nilIface := by
  rw [hb.cell (by simp), World.cell?_alloc_at _ _ _ _ (by simp)]; rfl
theorem cg {w w1 : World} {v : Value} (hb : Below (W3 w).heap.size (W3 w) w1) (hg : w.cell? ⟨2, 0, none⟩ = some v) : w1.cell? ⟨2, 0, none⟩ = some v := by
  have hlt : 2 < w.heap.size := lt_of_cell hg
  rw [hb.cell (by simp only [World.size_alloc]; omega), World.cell?_alloc_lt _ _ _ (by simp only [World.size_alloc]; omega), World.cell?_alloc_lt _ _ _ (by simp only [World.size_alloc]; omega), World.cell?_alloc_lt _ _ _ hlt]; exact hg
theorem next {w w1 w2 : World} (hb : Below (W3 w).heap.size (W3 w) w1) (h2 : Below w1.heap.size w1 w2) : Below (W3 w).heap.size (W3 w) w2 := hb.trans (h2.mono hb.size)

set_option maxHeartbeats 4000000 in
theorem chains_walk (w : World) (hg : w.cell? ⟨2, 0, none⟩ = some (.iface 110 (.agg #[tErr]))) :
    Calls Tryd.prog 4 #[] w fun ev w' => ev = .returned (.bool true) ∧ Below w.heap.size w w' := by
  have HG := Lib.hid hg
  clear hg
  have HB0 := Lib.hid (Below.refl (W3 w).heap.size (W3 w))
  go_enter Tryd.func4, Tryd.ntmps4
  go_wp2_with fail
  refine (code_nil _).mono ?_
  rintro e w' ⟨rfl, rfl⟩
  go_wp2_with fail
  refine (code_some 32 (.pointer (some ⟨w.heap.size, 0, none⟩)) 91 (W3 w) (cg HB0.out HG.out) (Lib.hid (finds1 91 ⟨w.heap.size, 0, none⟩ _ (c1 HB0.out)))).mono ?_
  rintro e w1 ⟨rfl, hb⟩
  have HB1 := Lib.hid (next HB0.out hb)
  clear hb
  go_wp2_with fail
  refine (num_any _ _).mono ?_
  rintro e w' ⟨rfl, rfl⟩
  go_wp2_with fail
  refine (code_some 32 (.pointer (some ⟨w.heap.size + 1, 0, none⟩)) 91 w1 (cg HB1.out HG.out) (Lib.hid (finds2 91 ⟨w.heap.size + 1, 0, none⟩ ⟨w.heap.size, 0, none⟩ _ (c2 HB1.out) (c1 HB1.out)))).mono ?_
  rintro e w2 ⟨rfl, hb⟩
  have HB2 := Lib.hid (next HB1.out hb)
  clear hb
  go_wp2_with fail
  refine (num_any _ _).mono ?_
  rintro e w' ⟨rfl, rfl⟩
  go_wp2_with fail
  refine (code_none 32 (.pointer (some ⟨w.heap.size + 1 + 1, 0, none⟩)) w2 (cg HB2.out HG.out) (Lib.hid (findsNot ⟨w.heap.size + 1 + 1, 0, none⟩ _ (c3 HB2.out)))).mono ?_
  rintro e w3 ⟨rfl, hb⟩
  have HB3 := Lib.hid (next HB2.out hb)
  clear hb
  go_wp2_with fail
  refine (code_some 25 (.int .i64 192) 192 w3 (cg HB3.out HG.out) (Lib.hid (finds0 192 _))).mono ?_
  rintro e w4 ⟨rfl, hb⟩
  have HB4 := Lib.hid (next HB3.out hb)
  clear hb
  go_wp2_with fail
  refine (num_any _ _).mono ?_
  rintro e w' ⟨rfl, rfl⟩
  go_wp2_with fail
  go_ret
  exact ⟨rfl, ((((Below.refl _ _).alloc (Nat.le_refl _) _).alloc (by simp) _).alloc (by simp; omega) _).trans (HB4.out.mono (by simp; omega))⟩
end Go.Proofs.YtnolfopgijgpcaaDoor.As
