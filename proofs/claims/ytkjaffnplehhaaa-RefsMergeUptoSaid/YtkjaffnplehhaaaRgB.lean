/- Stamps compared: as one truth; how a stamp's cells are read; the walk of EqStamps. -/
import Derived.Test.YtkjaffnplehhaaaRgA
import Derived.Stop.BytesEq
import Derived.Deep.MidRow
namespace Go.Proofs.Ytkjaffnplehhaaa.Rg
open Go Go.Lib Go.RowKit Go.ChangeMaps Go.Proofs.YtkjaffnplehhaaaW.PrintWords Go.Proofs.YtkjaffnplehhaaaW.PrintLast Go.Proofs.YtkjaffnplehhaaaW.PrintMore
set_option linter.unusedVariables false
set_option linter.unusedSimpArgs false
abbrev cl (l : By) : List Value := l.map (fun b => Value.int .u8 (b.toNat : Int))
abbrev vSt (x : Stp) : Value := .agg (encSt x).toArray
theorem encSt_eq (x : Stp) : encSt x = .string ⟨x.n.toArray⟩ :: (cl x.id ++ [.int .u64 (x.seq : Int)]) := rfl
theorem part29 {x : Stp} (h : x.Ok) (w : World) : (Go.part 29 (encSt x).toArray 1).run Try.prog w = .ok (.agg (cl x.id).toArray) w := by
  unfold Go.part
  rw [Sem.run_bind, Try.isAgg29]
  simp only [Result.andThen_ok, if_true, Sem.run_bind, Try.sizeOf29, Sem.run_pure]
  congr 2
  rw [encSt_eq]
  simp [h.id, List.extract_toArray]
theorem part9 (x : Stp) (w : World) : (Go.part 9 (encSt x).toArray 0).run Try.prog w = .ok (.string ⟨x.n.toArray⟩) w := by
  unfold Go.part
  rw [Sem.run_bind, Try.isAgg9]
  simp [encSt_eq]
theorem part30 {x : Stp} (h : x.Ok) (w : World) : (Go.part 30 (encSt x).toArray 33).run Try.prog w = .ok (.int .u64 (x.seq : Int)) w := by
  unfold Go.part
  rw [Sem.run_bind, Try.isAgg30]
  simp [encSt_eq, h.id]
theorem eq_st {x y : Stp} (hx : x.Ok) (hy : y.Ok) (w : World) : (Op.equalIn 10000 32 (vSt x) (vSt y)).run Try.prog w = .ok (decide (x = y)) w := by
  have he : (Op.equalIn 9999 9 (.string ⟨x.n.toArray⟩) (.string ⟨y.n.toArray⟩)).run Try.prog w = .ok (decide (x.n = y.n)) w := by
    rw [show (9999 : Nat) = 9998 + 1 from rfl, run_equalIn_string w 9998 9 _ _ Try.underlying9]
    congr 1
    rw [Bool.eq_iff_iff]
    simp [ByteArray.toList_eq]
  have hi : (Op.equalIn 9999 29 (.agg (cl x.id).toArray) (.agg (cl y.id).toArray)).run Try.prog w = .ok (decide (x.id = y.id)) w := by
    have h := run_equalIn_bytes (P := Try.prog) w 9997 29 5 32 Try.underlying29 Try.underlying5 Try.sizeOf5 x.id y.id hx.id hy.id
    refine h.trans ?_
    congr 1
    rw [Bool.eq_iff_iff]
    simp
  have hs : (Op.equalIn 9999 30 (.int .u64 (x.seq : Int)) (.int .u64 (y.seq : Int))).run Try.prog w = .ok (decide (x.seq = y.seq)) w := by
    rw [show (9999 : Nat) = 9998 + 1 from rfl, run_equalIn_int w 9998 30 .u64 .u64 _ _ Try.underlying30]
    congr 1
    rw [Bool.eq_iff_iff]
    simp only [beq_iff_eq, decide_eq_true_eq]
    omega
  have h3 := eqf_last (P := Try.prog) (d := 9999) (xs := (encSt x).toArray) (ys := (encSt y).toArray) (f := { name := "Seq", type := 30, offset := 33, embedded := false, tag := "", pkgPath := "", byteOffset := 48 }) (by rfl) (part30 hx w) (part30 hy w) hs
  have h2 := eqf_cons (P := Try.prog) (d := 9999) (xs := (encSt x).toArray) (ys := (encSt y).toArray) (f := { name := "ID", type := 29, offset := 1, embedded := false, tag := "", pkgPath := "", byteOffset := 16 }) (by rfl) (part29 hx w) (part29 hy w) hi h3
  have h1 := eqf_cons (P := Try.prog) (d := 9999) (xs := (encSt x).toArray) (ys := (encSt y).toArray) (f := { name := "Name", type := 9, offset := 0, embedded := false, tag := "", pkgPath := "", byteOffset := 0 }) (by rfl) (part9 x w) (part9 y w) he h2
  have h0 := eqA_of (P := Try.prog) (d := 9999) Try.underlying32 Try.stoodInHeld32 h1
  refine h0.trans ?_
  congr 1
  cases x; cases y
  simp [Bool.eq_iff_iff]
theorem eql_st {x y : Stp} (hx : x.Ok) (hy : y.Ok) (w : World) : (binOp .eql 32 (vSt x) (vSt y)).run Try.prog w = .ok (.bool (decide (x = y))) w := by
  rw [run_eql_struct, eq_st hx hy]
  rfl
theorem neq_st {x y : Stp} (hx : x.Ok) (hy : y.Ok) (w : World) : (binOp .neq 32 (vSt x) (vSt y)).run Try.prog w = .ok (.bool (!decide (x = y))) w := by
  rw [run_neq_struct, eq_st hx hy]
  rfl
theorem guard_st (op : BinOp) (a b : Operand) (x y : Stp) (w : World) : (eqGuard op 32 a b (vSt x) (vSt y)).run Try.prog w = .ok () w := run_eqGuard_agg w op 32 a b _ _ Try.eqGuardType32
/-- A stamp lies at a. -/
def StAt (w : World) (a : Addr) (x : Stp) : Prop := x.Ok ∧ ∀ j v, (encSt x)[j]? = some v → w.cell? (a.add j) = some v
theorem StAt.below {w w' : World} {a : Addr} {x : Stp} (h : StAt w a x) (hb : Below w.heap.size w w') : StAt w' a x := ⟨h.1, fun j v hj => pw_cell_below hb (h.2 j v hj)⟩
theorem StAt.load {w : World} {a : Addr} {x : Stp} (h : StAt w a x) : (Instr.loadAt 32 (.pointer (some a))).run Try.prog w = .ok (vSt x) w := by
  have hl := run_loadCells_list (P := Try.prog) w a (encSt x) h.2
  rw [encSt_len h.1] at hl
  simp only [Instr.loadAt, Instr.sureAddr, Sem.run_bind, Sem.run_pure, Result.andThen_ok, loadVar, Try.isAgg32, if_true, Try.sizeOf32, hl]
theorem C_st {w : World} {A : Option Addr} {l : List Stp} (h : Kd.C kSt w A l.length l) (i : Nat) (hi : i < l.length) : ∃ ad, A = some ad ∧ StAt w (ad.add (i * 34)) l[i] := by
  obtain ⟨ad, c, hA, hc, hk, hg⟩ := Kd.C_get h ⟨[], [], 0⟩ (i : Int) (by omega) (by omega)
  refine ⟨ad, hA, ?_⟩
  rw [Int.toNat_natCast, List.getD_eq_getElem?_getD, List.getElem?_eq_getElem hi] at hk
  obtain ⟨hok, rfl⟩ := hk
  refine ⟨hok, fun j v hj => ?_⟩
  rw [← hg j v hj, Int.toNat_natCast]
  show w.cell? ((ad.add (i * 34)).add j) = w.cell? (ad.add (i * 34 + j))
  congr 1
  simp [Addr.add]
  split <;> split <;> simp_all
  omega
end Go.Proofs.Ytkjaffnplehhaaa.Rg
