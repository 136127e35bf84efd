/- utf8's two tables at any well-typed values. -/
import Derived.Test.YtfbkkcigkpffiaaDoorGi
import Derived.Test.YtfbkkcigkpffiaaDoorGy
import GoSem.Claims
import Derived.Test.YtfbkkcigkpffiaaDoorGh
import Derived.Test.YtfbkkcigkpffiaaDoorGl
import Derived.Deep.Matrix
namespace Go.Proofs.YtfbkkcigkpffiaaDoor.St
open Go Go.Lib Go.RowKit
set_option linter.unusedVariables false
set_option maxRecDepth 100000 in
theorem row_u8 {W : World} (h : W.ShapedOpen Tryd.prog) {g t n : Nat} (hg : g < Tryd.prog.globals.size)
    (h0 : (((begin Tryd.prog (fun _ _ => 0) default).world.heap[g]?).bind Obj.row?).map (fun x => (x.1.size, x.2)) = some (n, t))
    (hb : Tryd.prog.buildable t = true) (hc : Tryd.prog.cellTypes Tryd.prog.depth t = some (List.replicate n 5)) (j : Nat) (hj : j < n) :
    ∃ m, W.cell? ⟨g, j, none⟩ = some (.int .u8 m) ∧ 0 ≤ m ∧ m ≤ 255 := by
  obtain ⟨⟨zero, t'⟩, hz, hz1⟩ := Option.map_eq_some_iff.1 h0
  simp only [Prod.mk.injEq] at hz1
  obtain ⟨hzs, rfl⟩ := hz1
  obtain ⟨cs, hh, hs, hr⟩ := h.1 g zero t' hg hz
  obtain ⟨ts, hts, _, hall⟩ := hr hb
  rw [hc] at hts
  cases hts
  have h1 : j < cs.size := by omega
  obtain ⟨u, hu', hok⟩ := hall j cs[j] (by simp [h1])
  have hu : u = 5 := by
    rw [List.length_replicate, Nat.mod_eq_of_lt hj, List.getElem?_replicate, if_pos hj] at hu'
    exact (Option.some.inj hu').symm
  subst hu
  have hcell : W.cell? ⟨g, j, none⟩ = some cs[j] := by simp [World.cell?, hh, h1]
  rw [hcell]
  unfold Cell.ok at hok
  rw [Tryd.underlying5] at hok
  cases hv : cs[j] <;> rw [hv] at hok <;> simp at hok
  case int k' m =>
    obtain ⟨rfl, hwf⟩ := hok
    refine ⟨m, rfl, ?_⟩
    simp [IntKind.has, IntKind.min, IntKind.max, IntKind.signed, IntKind.bits] at hwf
    omega
theorem u8t_of_shaped {W : World} (h : W.ShapedOpen Tryd.prog) : ∃ tb, U8T tb W := by
  have hf := row_u8 h (g := 4) (t := 168) (n := 256) (of_decide_eq_true (by kernel_rfl)) (by kernel_rfl) (by kernel_rfl) (by kernel_rfl)
  have ha := row_u8 h (g := 5) (t := 171) (n := 32) (of_decide_eq_true (by kernel_rfl)) (by kernel_rfl) (by kernel_rfl) (by kernel_rfl)
  refine ⟨⟨fun i => if hi : i < 256 then (hf i hi).choose else 0, fun i => if hi : i * 2 < 32 then (ha (i * 2) hi).choose else 0, fun i => if hi : i * 2 + 1 < 32 then (ha (i * 2 + 1) hi).choose else 0⟩, ?_, ?_, ?_, ?_⟩
  · intro i hi
    simp only [dif_pos hi]
    exact (hf i hi).choose_spec.1
  · intro i hi
    have h2 : i * 2 < 32 := by omega
    simp only [dif_pos h2]
    exact (ha _ h2).choose_spec.1
  · intro i hi
    have h2 : i * 2 + 1 < 32 := by omega
    simp only [dif_pos h2]
    exact (ha _ h2).choose_spec.1
  · intro i hi
    simp only [dif_pos hi]
    exact (hf i hi).choose_spec.2
end Go.Proofs.YtfbkkcigkpffiaaDoor.St

namespace Go.Proofs.YtfbkkcigkpffiaaDoor.St
open Go Go.Lib Go.RowKit
set_option linter.unusedVariables false
noncomputable def erOf (m : Nat) : Int := if m < 5 then ers.getD m 0 else 1
theorem ers_five : ers.length = 5 := by kernel_rfl
theorem erOf_zero : ∀ m, erOf m = 0 ↔ m = 0 := by
  have h : ∀ m, m < 5 → (ers.getD m 0 = 0 ↔ m = 0) := by
    have h5 : (List.range 5).all (fun m => decide (ers.getD m 0 = 0 ↔ m = 0)) = true := by kernel_rfl
    intro m hm
    exact of_decide_eq_true (List.all_eq_true.1 h5 m (List.mem_range.2 hm))
  intro m
  unfold erOf
  by_cases hm : m < 5
  · rw [if_pos hm]; exact h m hm
  · rw [if_neg hm]; constructor <;> intro h <;> omega
theorem ers_of_laid {W : World} (hL : laidMet Tryd.prog [("satchel/code.errnos", Rows.laid_satchel_code_errnos), ("satchel/digest.begin", Rows.laid_satchel_digest_begin), ("satchel/digest.rounds", Rows.laid_satchel_digest_rounds)] W) : Ers erOf W := by
  have h1 := Lib.laidMet.reads hL (.head _)
  rw [errnos_eq] at h1
  intro m hm
  rw [cell_of_tab (g := 3) (t := 145) (m := 5) (e := 36) (by kernel_rfl) (by kernel_rfl) (by kernel_rfl) Tryd.underlying36 (by kernel_rfl) (by kernel_rfl) h1 m, List.getElem?_eq_getElem (by rw [ers_five]; exact hm)]
  unfold erOf
  rw [if_pos hm, List.getD_eq_getElem?_getD, List.getElem?_eq_getElem (by rw [ers_five]; exact hm)]
  rfl
end Go.Proofs.YtfbkkcigkpffiaaDoor.St

namespace Go.Proofs.YtfbkkcigkpffiaaDoor.St
open Go Go.Lib Go.RowKit Go.ChangeMaps Go.Proofs.YtfbkkcigkpffiaaDoorW.PrintWords Go.Proofs.YtfbkkcigkpffiaaDoorW.PrintLast Go.Proofs.YtfbkkcigkpffiaaDoorW.PrintMore Go.Proofs.YtfbkkcigkpffiaaDoor.PStoreMany
set_option linter.unusedVariables false
theorem C_in {w : World} {A : Option Addr} {L C : Nat} {Z : List Int} (hL : L ≤ C) (hC : C ≤ maxLen) (hZ : Z.length = C) (hn : A = none → C = 0)
    (hc : ∀ a', A = some a' → ∀ c, c < C → w.cell? (a'.add c) = some (.int .u8 (Z.getD c 0))) : Kd.C kB w A (Z.take L).length (Z.take L) :=
  ⟨rfl, by rw [List.length_take]; unfold maxLen at hC; omega, fun hp => by
    rw [List.length_take] at hp
    cases A with
    | none => have := hn rfl; omega
    | some a => exact ⟨a, rfl, fun j p hj => ⟨[b8 p], rfl, rfl, fun i u hu => by
      have hi : i = 0 := by
        have := (List.getElem?_eq_some_iff.1 hu).1
        simpa using this
      subst hi
      cases hu
      have hjl : j < L := by
        have := (List.getElem?_eq_some_iff.1 hj).1
        rw [List.length_take] at this
        omega
      rw [List.getElem?_take_of_lt hjl] at hj
      have h := hc a rfl j (by omega)
      rw [List.getD_eq_getElem?_getD, hj] at h
      rw [show j * kB.sz + 0 = j by show j * 1 + 0 = j; omega]
      exact h⟩⟩⟩
def encsOf (len : Nat) (L : Nat → Nat) (Z : Nat → List Int) : List (List Int) := (List.range len).map fun r => (Z r).take (L r)
theorem encsOf_len (len : Nat) (L : Nat → Nat) (Z : Nat → List Int) : (encsOf len L Z).length = len := by simp [encsOf]
theorem encs_in {w : World} {a : Addr} {len cap base : Nat} {A : Nat → Option Addr} {L C : Nat → Nat} {Z : Nat → List Int} (hlc : len ≤ cap)
    (hr : ∀ r, r < cap → w.cell? (a.add r) = some (.slice (A r) (L r) (C r)) ∧ L r ≤ C r ∧ C r ≤ maxLen ∧ (Z r).length = C r ∧ (∀ n ∈ Z r, (Lit.int .u8 n).wf = true) ∧ (A r = none → C r = 0) ∧
      ∀ a', A r = some a' → base ≤ a'.block ∧ ∀ c, c < C r → w.cell? (a'.add c) = some (.int .u8 ((Z r).getD c 0))) :
    (∀ i (h : i < (encsOf len L Z).length), ∃ ad Ai ci, some a = some ad ∧ w.cell? (ad.add i) = some (.slice Ai (encsOf len L Z)[i].length ci) ∧ (encsOf len L Z)[i].length ≤ ci ∧ Kd.C kB w Ai (encsOf len L Z)[i].length (encsOf len L Z)[i]) ∧
    ∀ b ∈ encsOf len L Z, ∀ y ∈ b, Byte y := by
  refine ⟨fun i h => ?_, fun b hb y hy => ?_⟩
  · rw [encsOf_len] at h
    have he : (encsOf len L Z)[i]'(by rw [encsOf_len]; exact h) = (Z i).take (L i) := by simp [encsOf]
    obtain ⟨h0, h1, h2, h3, _, h5, h6⟩ := hr i (by omega)
    have hl : ((Z i).take (L i)).length = L i := by rw [List.length_take]; omega
    rw [he]
    exact ⟨a, A i, C i, rfl, by rw [hl]; exact h0, by rw [hl]; exact h1, C_in h1 h2 h3 h5 (fun a' ha' => (h6 a' ha').2)⟩
  · obtain ⟨r, hrr, rfl⟩ := List.mem_map.1 hb
    have hrl := List.mem_range.1 hrr
    have hwf := (hr r (by omega)).2.2.2.2.1 y (List.mem_of_mem_take hy)
    simp [Lit.wf, IntKind.min, IntKind.max, IntKind.signed, IntKind.bits] at hwf
    unfold Byte
    omega
end Go.Proofs.YtfbkkcigkpffiaaDoor.St
