/- The walks of a digest's New, Sum, and of Sum over bytes. -/
import Derived.Test.YtfbkkcigkpffiaaDoorSdC
namespace Go.Proofs.YtfbkkcigkpffiaaDoor.St
open Go Go.Lib Go.RowKit Go.ChangeMaps Go.Proofs.YtfbkkcigkpffiaaDoorW.PrintWords Go.Proofs.YtfbkkcigkpffiaaDoorW.PrintLast Go.Proofs.YtfbkkcigkpffiaaDoorW.PrintMore Go.Proofs.YtfbkkcigkpffiaaDoor.PStoreMany
set_option linter.unusedVariables false
set_option linter.unusedSimpArgs false
/-- What the program's tables hold. -/
structure Tabs (bg : List Int) (rk : Nat → Int) (w : World) : Prop where
  lb : bg.length = 8
  b : ∀ t, t < 8 → w.cell? ⟨0, t, none⟩ = some (u (bg.getD t 0))
  r : ∀ t, t < 64 → w.cell? ⟨1, t, none⟩ = some (u (rk t))
theorem Tabs.below {bg : List Int} {rk : Nat → Int} {w w' : World} (h : Tabs bg rk w) (hb : Below w.heap.size w w') : Tabs bg rk w' := ⟨h.lb, fun t ht => pw_cell_below hb (h.b t ht), fun t ht => pw_cell_below hb (h.r t ht)⟩
theorem cell_but {k : Nat} {w w' : World} (hb : But k w w') {p : Addr} {v : Value} (h : w.cell? p = some v) (hk : p.block ≠ k) : w'.cell? p = some v := by
  have h1 := World.block_lt_of_cell? w p h
  have h2 := hb.block p.block h1 hk
  unfold World.cell? at h ⊢
  rw [h2]; exact h
def hs0 (bg : List Int) : Hs := ⟨bg, zeros64, 0, 0⟩
set_option maxRecDepth 100000 in
set_option maxHeartbeats 4000000 in
theorem new_walk (bg : List Int) (rk : Nat → Int) (w : World) (hT : Tabs bg rk w) :
    Calls Tryd.prog 42 #[] w fun e w' => ∃ k, e = .returned (.pointer (some ⟨k, 0, none⟩)) ∧ HashAt w' k (hs0 bg) ∧ w.heap.size ≤ k ∧ Below w.heap.size w w' := by
  obtain ⟨a0, a1, a2, a3, a4, a5, a6, a7, hbg⟩ := list8 hT.lb
  have h0 := hT.b 0 (by decide)
  have h1 := hT.b 1 (by decide)
  have h2 := hT.b 2 (by decide)
  have h3 := hT.b 3 (by decide)
  have h4 := hT.b 4 (by decide)
  have h5 := hT.b 5 (by decide)
  have h6 := hT.b 6 (by decide)
  have h7 := hT.b 7 (by decide)
  subst hbg
  simp only [List.getD_cons_zero, List.getD_cons_succ] at h0 h1 h2 h3 h4 h5 h6 h7
  have HN := Lib.hid (Blk.new w 112 (Hs.cells (hs0 [a0, a1, a2, a3, a4, a5, a6, a7])))
  have HB := Lib.hid (show Below w.heap.size w (w.alloc (.cells (Hs.cells (hs0 [a0, a1, a2, a3, a4, a5, a6, a7])).toArray 112)) from below_alloc (Below.refl _ _) _)
  clear hT
  go_enter Tryd.func42, Tryd.ntmps42
  go_wp2_with fail
  go_ret
  exact ⟨w.heap.size, rfl, ⟨HN.out, ⟨rfl, by simp [hs0]⟩⟩, Nat.le_refl _, HB.out⟩
/-! ### whole blocks loaded and stored -/
def sets (cs : List Value) (o : Nat) : List Value → List Value
  | [] => cs
  | v :: r => sets (cs.set o v) (o + 1) r
theorem Blk.setCells {k t : Nat} : ∀ (vs : List Value) (o : Nat) (w : World) (cs : List Value), Blk w k t cs → Blk (w.setCells k o vs) k t (sets cs o vs)
  | [], _, _, _, h => h
  | v :: r, o, w, cs, h => Blk.setCells r (o + 1) _ _ (h.set o v)
theorem sets_from : ∀ (vs p cs : List Value), p.length + vs.length = cs.length → cs.take p.length = p → sets cs p.length vs = p ++ vs
  | [], p, cs, hl, hp => by
    simp only [sets, List.append_nil]
    rw [← hp, List.take_of_length_le]
    simp at hl ⊢
    omega
  | v :: r, p, cs, hl, hp => by
    simp only [sets]
    have h := sets_from r (p ++ [v]) (cs.set p.length v) (by simp at hl ⊢; omega) (by
      rw [List.length_append]
      apply List.ext_getElem?
      intro j
      rw [List.getElem?_take]
      by_cases hj : j < p.length
      · rw [if_pos (by simp; omega), List.getElem?_set_ne (by omega), List.getElem?_append_left hj]
        have h9 : (cs.take p.length)[j]? = cs[j]? := by rw [List.getElem?_take, if_pos hj]
        rw [hp] at h9
        exact h9.symm
      · by_cases e : j = p.length
        · subst e
          rw [if_pos (by simp), List.getElem?_set_self (by simp at hl; omega), List.getElem?_append_right (Nat.le_refl _)]
          simp
        · rw [if_neg (by simp; omega), List.getElem?_eq_none (by simp; omega)])
    rw [List.length_append] at h
    rw [show p.length + 1 = p.length + [v].length from rfl, h]
    simp
theorem sets_all (vs cs : List Value) (h : vs.length = cs.length) : sets cs 0 vs = vs := by
  have := sets_from vs [] cs (by simpa using h) rfl
  simpa using this
theorem setCells_size (g : Nat) : ∀ (vs : List Value) (o : Nat) (w : World), (w.setCells g o vs).heap.size = w.heap.size
  | [], _, _ => rfl
  | v :: r, o, w => by rw [World.setCells, setCells_size g r]; simp [World.setCell]
theorem But.setCells {k : Nat} {a : World} : ∀ (vs : List Value) (o : Nat) (b : World), But k a b → But k a (b.setCells k o vs)
  | [], _, _, h => h
  | v :: r, o, b, h => But.setCells r (o + 1) _ (h.set o v)
theorem Blk.there {w : World} {k t : Nat} {cs : List Value} (h : Blk w k t cs) (o n : Nat) (hn : o + n ≤ cs.length) : w.there k o n := fun j hj => by
  refine ⟨?_, h.frozen _⟩
  rw [h.cell, List.getElem?_eq_getElem (by omega)]
  rfl
theorem Blk.loads {w : World} {k t : Nat} {cs : List Value} (h : Blk w k t cs) (ty : TypeId) (hagg : ∀ w, (isAgg ty).run Tryd.prog w = .ok true w) (hsz : ∀ w, (sizeOf ty).run Tryd.prog w = .ok cs.length w) : (Instr.loadAt ty (.pointer (some ⟨k, 0, none⟩))).run Tryd.prog w = .ok (.agg cs.toArray) w := by
  have hl := run_loadCells_list (P := Tryd.prog) w ⟨k, 0, none⟩ cs (fun j v hj => by rw [Addr.add_lit, Nat.zero_add, h.cell, hj])
  simp only [Instr.loadAt, Instr.sureAddr, Sem.run_bind, Sem.run_pure, Result.andThen_ok, loadVar, hagg, if_true, hsz, hl]
theorem wpList_ld {P : Program} {ops : Array Oper} {rest : List Oper} {o : Oper} {a : Act} {w : World} {Q : Exit → Act → World → Prop} (hgd : o.guard = none) (ty : TypeId) (x : Operand) (ho : o.op = .load ty x)
    (ad : Addr) (hx : a.eval x = .pointer (some ad)) (v : Value) (hl : (Instr.loadAt ty (.pointer (some ad))).run P w = .ok v w)
    (h : wpList P ops Q rest (a.put o.dst v) w) : wpList P ops Q (o :: rest) a w :=
  wpList_plain hgd fun _ hK => by
    unfold Oper.wp execOp
    simp only [ho, hx, Sem.run_bind, hl, Result.andThen_ok, Sem.run_pure]
    exact hK _ _ h
theorem Hs.one (s : Hs) : ∀ v ∈ s.cells, v.oneCell' = true := fun v hv => by
  unfold Hs.cells at hv
  rcases List.mem_append.1 hv with h | h
  · obtain ⟨x, _, rfl⟩ := List.mem_map.1 h; rfl
  · rcases List.mem_append.1 h with h | h
    · obtain ⟨x, _, rfl⟩ := List.mem_map.1 h; rfl
    · rcases List.mem_cons.1 h with rfl | h
      · rfl
      · rw [List.mem_singleton.1 h]; rfl
theorem Hs.len {s : Hs} (h : s.Ok) : s.cells.length = 74 := by simp [Hs.cells, h.ws, h.tl]
end Go.Proofs.YtfbkkcigkpffiaaDoor.St
