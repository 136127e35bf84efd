/- A list of stamps in one block: read, stored into, cleared behind. -/
import Derived.Test.YtkjaffnplehhaaaRgF
namespace Go.Proofs.Ytkjaffnplehhaaa.Rg
open Go Go.Lib Go.RowKit Go.ChangeMaps Go.Proofs.YtkjaffnplehhaaaW.PrintWords Go.Proofs.YtkjaffnplehhaaaW.PrintLast Go.Proofs.YtkjaffnplehhaaaW.PrintMore Go.Proofs.Ytkjaffnplehhaaa.PRefsMerge Go.Sort
set_option linter.unusedVariables false
set_option linter.unusedSimpArgs false
/-- The stamps lie in block g, one behind the other, and may be written. -/
def RowAt (w : World) (g : Nat) (L : List Stp) : Prop := ∀ i (hi : i < L.length) j v, (encSt L[i])[j]? = some v → w.cell? ⟨g, i * 34 + j, none⟩ = some v ∧ w.frozen? ⟨g, i * 34 + j, none⟩ = false
theorem RowAt.st {w : World} {g : Nat} {L : List Stp} (h : RowAt w g L) (hok : ∀ x ∈ L, x.Ok) (i : Nat) (hi : i < L.length) : StAt w ⟨g, i * 34, none⟩ L[i] :=
  ⟨hok _ (List.getElem_mem hi), fun j v hj => by rw [Addr.add_lit]; exact (h i hi j v hj).1⟩
theorem RowAt.below {w w' : World} {g : Nat} {L : List Stp} (h : RowAt w g L) (hg : g < w.heap.size) (hb : Below w.heap.size w w') : RowAt w' g L := fun i hi j v hj => by
  obtain ⟨h1, h2⟩ := h i hi j v hj
  exact ⟨(hb.cell (p := ⟨g, i * 34 + j, none⟩) hg).trans h1, (hb.frozen (p := ⟨g, i * 34 + j, none⟩) hg).trans h2⟩
theorem RowAt.take {w : World} {g : Nat} {L : List Stp} (h : RowAt w g L) (m : Nat) : RowAt w g (L.take m) := fun i hi j v hj => by
  have hi' : i < L.length := by rw [List.length_take] at hi; omega
  rw [List.getElem_take] at hj
  exact h i hi' j v hj
theorem RowAt.C {w : World} {g : Nat} {L : List Stp} (h : RowAt w g L) (hok : ∀ x ∈ L, x.Ok) (hl : L.length ≤ 9223372036854775807) : Kd.C kSt w (some ⟨g, 0, none⟩) L.length L :=
  ⟨rfl, hl, fun _ => ⟨_, rfl, fun i x hx => by
    have hi := (List.getElem?_eq_some_iff.1 hx).1
    have hxe : L[i] = x := by rw [List.getElem?_eq_getElem hi] at hx; exact Option.some.inj hx
    have hx1 := hok _ (List.getElem_mem hi)
    rw [hxe] at hx1
    refine ⟨encSt x, encSt_len hx1, ⟨hx1, rfl⟩, fun j v hj => ?_⟩
    rw [Addr.add_lit, Nat.zero_add]
    exact (h i hi j v (by rw [hxe]; exact hj)).1⟩⟩
theorem RowAt.there {w : World} {g : Nat} {L : List Stp} (h : RowAt w g L) (hok : ∀ x ∈ L, x.Ok) (m n : Nat) (hn : m * 34 + n ≤ L.length * 34) : w.there g (m * 34) n := fun j hj => by
  have hq : (m * 34 + j) / 34 < L.length := by omega
  have hj' : (m * 34 + j) % 34 < (encSt L[(m * 34 + j) / 34]).length := by rw [encSt_len (hok _ (List.getElem_mem hq))]; omega
  obtain ⟨h1, h2⟩ := h _ hq _ _ (List.getElem?_eq_getElem hj')
  have he : (m * 34 + j) / 34 * 34 + (m * 34 + j) % 34 = m * 34 + j := by omega
  rw [he] at h1 h2
  exact ⟨by rw [h1]; rfl, h2⟩
theorem RowAt.set {w : World} {g : Nat} {L : List Stp} (h : RowAt w g L) (hok : ∀ x ∈ L, x.Ok) (i : Nat) (hi : i < L.length) (x : Stp) (hx : x.Ok) : RowAt (w.setCells g (i * 34) (encSt x)) g (L.set i x) := fun k hk j v hj => by
  rw [World.frozen?_setCells]
  have hk' : k < L.length := by simpa using hk
  by_cases e : i = k
  · subst e
    rw [List.getElem_set_self] at hj
    have hjl := (List.getElem?_eq_some_iff.1 hj).1
    have ht := h.there hok i 34 (by omega)
    rw [World.cell?_setCells_in g (encSt x) (i * 34) w (fun q hq => (ht q (by rw [encSt_len hx] at hq; exact hq)).1) j hjl]
    refine ⟨by rw [← hj, List.getElem?_eq_getElem hjl], ?_⟩
    exact (ht j (by rw [encSt_len hx] at hjl; exact hjl)).2
  · rw [List.getElem_set_ne e] at hj
    have hjl := (List.getElem?_eq_some_iff.1 hj).1
    rw [encSt_len (hok _ (List.getElem_mem hk'))] at hjl
    rw [World.cell?_setCells_out g (encSt x) (i * 34) w ⟨g, k * 34 + j, none⟩ (fun _ _ => by
      rw [encSt_len hx]
      show k * 34 + j < i * 34 ∨ i * 34 + 34 ≤ k * 34 + j
      omega)]
    exact h k hk' j v hj
theorem RowAt.cleared {w : World} {g : Nat} {L : List Stp} (h : RowAt w g L) (hok : ∀ x ∈ L, x.Ok) (m : Nat) (zs : List Value) : RowAt (w.setCells g (m * 34) zs) g (L.take m) := fun k hk j v hj => by
  rw [World.frozen?_setCells]
  have hkm : k < m ∧ k < L.length := by rw [List.length_take] at hk; omega
  have hj0 := hj
  rw [List.getElem_take] at hj
  have hjl := (List.getElem?_eq_some_iff.1 hj).1
  rw [encSt_len (hok _ (List.getElem_mem hkm.2))] at hjl
  rw [World.cell?_setCells_out g zs (m * 34) w ⟨g, k * 34 + j, none⟩ (fun _ _ => by
    left
    show k * 34 + j < m * 34
    omega)]
  exact h k hkm.2 j v hj
theorem setCells_below {B : Nat} {w0 : World} (g : Nat) (hg : B ≤ g) : ∀ (vs : List Value) (o : Nat) (w : World), Below B w0 w → Below B w0 (w.setCells g o vs)
  | [], _, _, h => h
  | v :: r, o, w, h => setCells_below g hg r (o + 1) _ (h.setCell (p := ⟨g, o, none⟩) hg v)
theorem setCells_size (g : Nat) : ∀ (vs : List Value) (o : Nat) (w : World), (w.setCells g o vs).heap.size = w.heap.size
  | [], _, _ => rfl
  | v :: r, o, w => by rw [World.setCells, setCells_size g r]; simp [World.setCell]
theorem info32s : (Try.prog.info? 32).map (·.size) = some 34 := by kernel_rfl
/-- clear at a slice of stamps. -/
theorem run_clear {w : World} {g : Nat} {L : List Stp} (h : RowAt w g L) (hok : ∀ x ∈ L, x.Ok) (m n c : Nat) (hn : 0 < n) (hm : m + n = L.length) (ty : TypeId) :
    ∃ zs, (Builtin.clear_ #[22] ty #[.slice (some ⟨g, m * 34, none⟩) n c]).run Try.prog w = .ok (.tuple #[]) (w.setCells g (m * 34) zs) := by
  obtain ⟨z, hz, hz1, hz34⟩ : ∃ z, (∀ w, (zeroValue 32).run Try.prog w = .ok z w) ∧ (∀ u ∈ z.cells.toList, u.oneCell' = true) ∧ z.cells.size = 34 :=
    ⟨vSt ⟨[], zeroId, 0⟩, Try.zeroValue32, fun u hu => encSt_one _ u (by simpa [Value.cells] using hu), by simp [Value.cells]; exact encSt_len ⟨by decide, by decide⟩⟩
  refine ⟨(Builtin.zeroCells z.cells n).toList, ?_⟩
  have hsz : (Builtin.zeroCells z.cells n).toList.length = n * 34 := by simp [Builtin.zeroCells, hz34]
  have hone : ∀ v ∈ (Builtin.zeroCells z.cells n).toList, v.oneCell' = true := fun v hv => by
    unfold Builtin.zeroCells at hv
    rw [Array.toList_map] at hv
    obtain ⟨i, hi, rfl⟩ := List.mem_map.1 hv
    have hlt : i % z.cells.size < z.cells.size := Nat.mod_lt _ (by omega)
    rw [getElem!_pos z.cells _ hlt]
    exact hz1 _ (by rw [Array.mem_toList_iff]; exact Array.getElem_mem hlt)
  have ht := h.there hok m (n * 34) (by omega)
  have hst := run_storeCells_cells (P := Try.prog) g (m * 34) (Builtin.zeroCells z.cells n).toList 0 w (fun j hj => by rw [hsz] at hj; exact (ht j hj).1) (fun j hj => by rw [hsz] at hj; exact (ht j hj).2) hone
  simp only [Nat.add_zero] at hst
  obtain ⟨k, rfl⟩ : ∃ k, n = k + 1 := ⟨n - 1, by omega⟩
  simp [Builtin.clear_, run_underlying Try.underlying22, hz, hst]
/-! ### what CompactFunc leaves, step by step -/
def lastN (p : Option By) (l : List Stp) : Option By := (l.getLast?.map Stp.n).or p
theorem firsts_snoc : ∀ (l : List Stp) (p : Option By) (x : Stp), firsts p (l ++ [x]) = firsts p l ++ (if lastN p l = some x.n then [] else [x])
  | [], p, x => by
    simp only [List.nil_append, firsts, lastN, List.getLast?_nil, Option.map_none, Option.none_or]
    split <;> simp_all
  | y :: r, p, x => by
    have ih := firsts_snoc r (some y.n) x
    have hl : lastN p (y :: r) = lastN (some y.n) r := by
      unfold lastN
      cases r with
      | nil => simp
      | cons z r => rw [List.getLast?_cons_cons]; simp [List.getLast?_cons]
    rw [List.cons_append]
    unfold firsts
    rw [hl, ih]
    split <;> rfl
theorem firsts_step (D : List Stp) (j : Nat) (h0 : 0 < j) (hj : j < D.length) : firsts none (D.take (j + 1)) = firsts none (D.take j) ++ (if (D[j]).n = (D[j - 1]'(by omega)).n then [] else [D[j]]) := by
  rw [List.take_succ_eq_append_getElem hj, firsts_snoc]
  have : lastN none (D.take j) = some (D[j - 1]'(by omega)).n := by
    unfold lastN
    rw [List.getLast?_eq_getElem?, List.length_take, Nat.min_eq_left (by omega), List.getElem?_take, if_pos (by omega), List.getElem?_eq_getElem (by omega)]
    rfl
  rw [this]
  by_cases e : (D[j]).n = (D[j - 1]'(by omega)).n
  · rw [if_pos e, if_pos (by rw [e])]
  · rw [if_neg e, if_neg (fun h => e (Option.some.inj h).symm)]
theorem firsts_one (D : List Stp) (h : 0 < D.length) : firsts none (D.take 1) = D.take 1 := by
  cases D with
  | nil => simp at h
  | cons x r => simp [firsts]
end Go.Proofs.Ytkjaffnplehhaaa.Rg
