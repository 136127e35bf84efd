/- How the argument of RefsMerge reads, and how large it is. -/
import Derived.Test.YtkjaffnplehhaaaRgL
import Derived.Test.YtkjaffnplehhaaaRows
import Derived.Lib.SmallJoins
import Derived.Deep.Slices
import Derived.Deep.Strs
import Derived.OpenShut
namespace Go.Proofs.Ytkjaffnplehhaaa.Rg
open Go Go.Lib Go.RowKit Go.Deep Go.Joins Go.ChangeShapes Go.WideShapes Go.Proofs.YtkjaffnplehhaaaW.PrintWords Go.Proofs.Ytkjaffnplehhaaa.PRefsMerge
set_option linter.unusedVariables false
set_option linter.unusedSimpArgs false
set_option maxRecDepth 100000

section
variable {H : Type} {enc : TypeId × Value → H} {W : World}
theorem bulk_pos : ∀ d : DataW H, 1 ≤ Rows.uptoBulk d
  | .lit (.string b) => by simp [Rows.uptoBulk]
  | .lit (.bool b) => by simp [Rows.uptoBulk]
  | .lit (.int k n) => by simp [Rows.uptoBulk]
  | .lit (.float k n) => by simp [Rows.uptoBulk]
  | .lit .nil => by simp [Rows.uptoBulk]
  | .nil => by simp [Rows.uptoBulk]
  | .ptr d => by simp [Rows.uptoBulk]
  | .slice a b => by simp [Rows.uptoBulk]
  | .agg p => by simp [Rows.uptoBulk]
  | .iface _ d => by simp [Rows.uptoBulk]
  | .map es => by simp [Rows.uptoBulk]
  | .held _ => by simp [Rows.uptoBulk]
theorem bulk_mem : ∀ {ds : List (DataW H)} {d : DataW H}, d ∈ ds → Rows.uptoBulk d ≤ Rows.uptoBulkAll ds
  | a :: r, d, h => by
    rcases List.mem_cons.1 h with rfl | h
    · simp [Rows.uptoBulkAll]
    · have := bulk_mem h
      simp only [Rows.uptoBulkAll]; omega
theorem bulk_len : ∀ (ds : List (DataW H)), ds.length ≤ Rows.uptoBulkAll ds
  | [] => by simp
  | a :: r => by
    have := bulk_len r
    have := bulk_pos a
    simp only [Rows.uptoBulkAll, List.length_cons]; omega
/-- A row, opened: its elements by d. -/
theorem open_row {α : Type} [Inhabited α] (d : Kd α) (t e : TypeId) (ht : Try.prog.underlying t = some (.slice e)) (hsz : Try.prog.cellsOf e = d.sz) {sp : Nat → Bool} {b : Nat} {held : Bool} (Good : DataW H → α → Prop)
    (each : ∀ n cs y, DataW.trod enc Try.prog W b sp held n e cs = some y → ∃ x, d.K W x cs ∧ Good y.1 x) {n : Nat} {v : Value} {y : DataW H × List MemPlace} (h : DataW.trod enc Try.prog W b sp held n t [v] = some y) :
    ∃ (A : Option Addr) (l : List α) (c : Nat), v = .slice A l.length c ∧ l.length ≤ c ∧ Kd.C d W A l.length l ∧ l.length ≤ Rows.uptoBulk y.1 ∧ ∀ x ∈ l, ∃ D, Good D x ∧ Rows.uptoBulk D ≤ Rows.uptoBulk y.1 := by
  rcases open_slice ht h with ⟨h0, rfl⟩ | ⟨a, len, cap, m, n', D, Pl, h0, _, hlc, hcm, hm, rfl, hel⟩
  · obtain rfl : v = .slice none 0 0 := by simpa using h0
    exact ⟨none, [], 0, rfl, Nat.le_refl _, Kd.C_nil _ _, Nat.zero_le _, fun u hu => by simp at hu⟩
  · obtain rfl : v = .slice (some a) len cap := by simpa using h0
    have hlm : len ≤ m := by rw [hm]; split <;> omega
    have each2 : ∀ i, i < len → ∃ u : α, (∃ cs, W.cells? b (a.add (i * d.sz)) d.sz = some cs ∧ d.K W u cs) ∧ Good (D i) u := fun i hi => by
      obtain ⟨cs', h1, h2⟩ := hel i (by omega)
      rw [hsz] at h1
      obtain ⟨u, h3, h4⟩ := each _ _ _ h2
      exact ⟨u, ⟨cs', h1, h3⟩, h4⟩
    obtain ⟨U, hU⟩ := choose_lt each2
    have hlen : ((List.range len).map U).length = len := by simp
    refine ⟨some a, (List.range len).map U, cap, by rw [hlen], by rw [hlen]; exact hlc, ⟨rfl, by rw [hlen]; unfold maxLen at hcm; omega, fun _ => ⟨a, rfl, fun j p hj => ?_⟩⟩, ?_, fun u hu => ?_⟩
    · rw [List.getElem?_map] at hj
      obtain ⟨i, hi, rfl⟩ := Option.map_eq_some_iff.1 hj
      obtain ⟨hjl, rfl⟩ := List.getElem?_eq_some_iff.1 hi
      rw [List.length_range] at hjl
      rw [List.getElem_range]
      obtain ⟨cs, h1, h2⟩ := (hU j hjl).1
      refine ⟨cs, d.K_len h2, h2, fun i u hu => ?_⟩
      obtain ⟨_, hl1, hcell⟩ := World.cells?_some h1
      have hi4 : i < d.sz := by
        have := (List.getElem?_eq_some_iff.1 hu).1
        rw [d.K_len h2] at this
        exact this
      have := hcell i hi4
      rw [hu] at this
      rw [← this]
      congr 1
      show a.add (j * d.sz + i) = (a.add (j * d.sz)).add i
      rw [Go.Deep.add_add]
    · rw [hlen]
      have := bulk_len ((List.range len).map D)
      simp only [Rows.uptoBulk]
      simp at this
      omega
    · obtain ⟨i, hi, rfl⟩ := List.mem_map.1 hu
      have hi := List.mem_range.1 hi
      refine ⟨D i, (hU i hi).2, ?_⟩
      have := bulk_mem (ds := (List.range len).map D) (List.mem_map_of_mem (List.mem_range.2 hi))
      simp only [Rows.uptoBulk]
      omega
theorem bulk_agg {ds : List (DataW H)} {d : DataW H} (h : d ∈ ds) : Rows.uptoBulk d ≤ Rows.uptoBulk (.agg ds) := by
  have := bulk_mem h
  simp only [Rows.uptoBulk]; omega
theorem array3 {α : Type} {cs : Array α} (h : cs.size = 3) : ∃ c0 c1 c2, cs = #[c0, c1, c2] := by
  obtain ⟨l⟩ := cs
  match l, h with
  | [c0, c1, c2], _ => exact ⟨c0, c1, c2, rfl⟩
theorem open_u8 {sp : Nat → Bool} {b : Nat} {held : Bool} {n : Nat} {v : Value} {y : DataW H × List MemPlace} (h : DataW.trod enc Try.prog W b sp held n 5 [v] = some y) : ∃ x : UInt8, v = .int .u8 (x.toNat : Int) := by
  obtain ⟨x, hx, _, hw⟩ := DataW.trod_int Try.underlying5 h
  simp only [List.cons.injEq, and_true] at hx
  subst hx
  simp [Lit.wf, IntKind.min, IntKind.max, IntKind.signed, IntKind.bits] at hw
  have h8 : (UInt8.ofNat x.toNat).toNat = x.toNat := by
    rw [UInt8.toNat_ofNat']
    omega
  refine ⟨UInt8.ofNat x.toNat, ?_⟩
  rw [h8]
  congr 1
  omega
theorem open_id {sp : Nat → Bool} {b : Nat} {held : Bool} {n : Nat} {cs : List Value} {y : DataW H × List MemPlace} (h : DataW.trod enc Try.prog W b sp held n 29 cs = some y) : ∃ l : By, l.length = 32 ∧ cs = cl l := by
  obtain ⟨xs, m, _, _, hl, hlen, hf⟩ := DataW.trod_array Try.underlying29 h
  have k5 : Try.prog.cellsOf 5 = 1 := by kernel_rfl
  have hc : cs.length = 32 := hl.trans (by kernel_rfl)
  have each : ∀ i, i < 32 → ∃ x : UInt8, cs[i]? = some (.int .u8 (x.toNat : Int)) := fun i hi => by
    rw [List.getElem?_eq_getElem (by omega)]
    have h1 := hf i hi
    rw [k5, Nat.mul_one, List.drop_eq_getElem_cons (by omega), List.take_succ_cons, List.take_zero, List.getElem?_eq_getElem (by omega)] at h1
    obtain ⟨x, hx⟩ := open_u8 h1
    exact ⟨x, by rw [hx]⟩
  obtain ⟨U, hU⟩ := choose_lt each
  refine ⟨(List.range 32).map U, by simp, ?_⟩
  apply List.ext_getElem?
  intro i
  by_cases hi : i < 32
  · rw [hU i hi]
    simp [hi]
  · rw [List.getElem?_eq_none (by omega), List.getElem?_eq_none (by simp; omega)]
theorem open_stamp {sp : Nat → Bool} {b : Nat} {held : Bool} {n : Nat} {cs : List Value} {y : DataW H × List MemPlace} (h : DataW.trod enc Try.prog W b sp held n 32 cs = some y) : ∃ x : Stp, kSt.K W x cs ∧ True := by
  obtain ⟨xs, m, _, _, hl, hlen, hf⟩ := DataW.trod_struct Try.underlying32 h
  have hc : cs.length = 34 := hl.trans (by kernel_rfl)
  match xs, hlen with
  | [y0, y1, y2], _ =>
    have k9 : Try.prog.cellsOf 9 = 1 := by kernel_rfl
    have k29 : Try.prog.cellsOf 29 = 32 := by kernel_rfl
    have k30 : Try.prog.cellsOf 30 = 1 := by kernel_rfl
    have h0 : DataW.trod enc Try.prog W b sp held m 9 ((cs.drop 0).take (Try.prog.cellsOf 9)) = some y0 := hf 0 _ rfl
    have h1 : DataW.trod enc Try.prog W b sp held m 29 ((cs.drop 1).take (Try.prog.cellsOf 29)) = some y1 := hf 1 _ rfl
    have h2 : DataW.trod enc Try.prog W b sp held m 30 ((cs.drop 33).take (Try.prog.cellsOf 30)) = some y2 := hf 2 _ rfl
    rw [k9, List.drop_zero] at h0
    rw [k29] at h1
    rw [k30] at h2
    obtain ⟨s0, e0, _, _⟩ := DataW.trod_string Try.underlying9 h0
    obtain ⟨l, hl32, e1⟩ := open_id h1
    obtain ⟨q, e2, _, hw⟩ := DataW.trod_int Try.underlying30 h2
    simp [Lit.wf, IntKind.min, IntKind.max, IntKind.signed, IntKind.bits] at hw
    have hs : cs = cs.take 1 ++ ((cs.drop 1).take 32 ++ (cs.drop 33).take 1) := by
      apply List.ext_getElem?
      intro i
      by_cases h1 : i < 1
      · rw [List.getElem?_append_left (by simp; omega), List.getElem?_take, if_pos h1]
      · rw [List.getElem?_append_right (by simp; omega)]
        by_cases h2 : i < 33
        · rw [List.getElem?_append_left (by simp; omega), List.getElem?_take, if_pos (by simp; omega), List.getElem?_drop]
          congr 1
          simp
          omega
        · rw [List.getElem?_append_right (by simp; omega)]
          by_cases h3 : i < 34
          · rw [List.getElem?_take, if_pos (by simp; omega), List.getElem?_drop]
            congr 1
            simp
            omega
          · rw [List.getElem?_eq_none (by omega), List.getElem?_eq_none (by simp; omega)]
    refine ⟨⟨s0.data.toList, l, q.toNat⟩, ⟨⟨hl32, by show q.toNat < _; omega⟩, ?_⟩, trivial⟩
    rw [hs, e0, e1, e2, encSt_eq]
    have hq : (q.toNat : Int) = q := by omega
    simp [hq]
instance inhStp : Inhabited Stp := ⟨markSt⟩
theorem open_stamps {sp : Nat → Bool} {b : Nat} {held : Bool} {n : Nat} {v : Value} {y : DataW H × List MemPlace} (h : DataW.trod enc Try.prog W b sp held n 22 [v] = some y) :
    ∃ (A : Option Addr) (l : List Stp) (c : Nat), v = .slice A l.length c ∧ l.length ≤ c ∧ Kd.C kSt W A l.length l ∧ l.length ≤ Rows.uptoBulk y.1 := by
  obtain ⟨A, l, c, h1, h2, h3, h4, h5⟩ := open_row (α := Stp) kSt 22 32 Try.underlying22 (by kernel_rfl) (fun D o => True) (fun n cs y hy => open_stamp hy) h
  exact ⟨A, l, c, h1, h2, h3, h4⟩
theorem open_three {r : Reach} {b0 b : Nat} {sp : Nat → Bool} {held : Bool} {v : Value} {d : DataW H} {p : List MemPlace} (hv : Value.okWide Try.prog W r b0 24 v) (h : DataW.Trod enc Try.prog W b sp held 24 v d p) :
    ∃ A1 c1 l1 A2 c2 l2 A3 c3 l3, v = .agg #[.slice A1 l1.length c1, .slice A2 l2.length c2, .slice A3 l3.length c3] ∧ Kd.C kSt W A1 l1.length l1 ∧ Kd.C kSt W A2 l2.length l2 ∧ Kd.C kSt W A3 l3.length l3 ∧ l2.length ≤ c2 ∧
      l1.length + l2.length + l3.length ≤ Rows.uptoBulk d := by
  obtain ⟨cs, rfl, hsz⟩ := okWide_struct Try.underlying24 hv
  obtain ⟨c0, c1, c2, rfl⟩ := array3 (hsz.trans (by kernel_rfl))
  obtain ⟨fuel, hfu⟩ := h
  obtain ⟨xs, m, _, hx, hl, hlen, hf⟩ := DataW.trod_struct Try.underlying24 hfu
  simp only [Prod.mk.injEq] at hx
  obtain ⟨rfl, _⟩ := hx
  match xs, hlen with
  | [y0, y1, y2], _ =>
    have k22 : Try.prog.cellsOf 22 = 1 := by kernel_rfl
    have h0 : DataW.trod enc Try.prog W b sp held m 22 [c0] = some y0 := by simpa [k22, Value.cells] using hf 0 _ rfl
    have h1 : DataW.trod enc Try.prog W b sp held m 22 [c1] = some y1 := by simpa [k22, Value.cells] using hf 1 _ rfl
    have h2 : DataW.trod enc Try.prog W b sp held m 22 [c2] = some y2 := by simpa [k22, Value.cells] using hf 2 _ rfl
    obtain ⟨A1, l1, d1, rfl, g1, C1, n1⟩ := open_stamps h0
    obtain ⟨A2, l2, d2, rfl, g2, C2, n2⟩ := open_stamps h1
    obtain ⟨A3, l3, d3, rfl, g3, C3, n3⟩ := open_stamps h2
    refine ⟨A1, d1, l1, A2, d2, l2, A3, d3, l3, rfl, C1, C2, C3, g2, ?_⟩
    simp only [List.map_cons, List.map_nil, Rows.uptoBulk, Rows.uptoBulkAll]
    omega
end
end Go.Proofs.Ytkjaffnplehhaaa.Rg
