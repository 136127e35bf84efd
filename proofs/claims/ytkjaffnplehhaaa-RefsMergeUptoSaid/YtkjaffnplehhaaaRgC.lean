/- The walk of EqStamps. -/
import Derived.Test.YtkjaffnplehhaaaRgB
namespace Go.Proofs.Ytkjaffnplehhaaa.Rg
open Go Go.Lib Go.RowKit Go.ChangeMaps Go.Proofs.YtkjaffnplehhaaaW.PrintWords Go.Proofs.YtkjaffnplehhaaaW.PrintLast Go.Proofs.YtkjaffnplehhaaaW.PrintMore
set_option linter.unusedVariables false
set_option linter.unusedSimpArgs false
/-! ### a region that draws its order: one walk, over all worlds in which nothing that was there has changed -/
def Cls (w : World) : Type := { w' : World // Below w.heap.size w w' }
def Cls.at {w : World} (i : Cls w) : World := i.1
theorem Cls.below {w : World} (i : Cls w) : Below w.heap.size w i.at := i.2
theorem Cls.cell {w : World} (i : Cls w) {p : Addr} {v : Value} (h : w.cell? p = some v) : i.at.cell? p = some v := pw_cell_below i.below h
def Cls.mk' {w w' : World} (h : Below w.heap.size w w') : Cls w := ⟨w', h⟩
instance clsNonempty (w : World) : Nonempty (Cls w) := ⟨Cls.mk' (Below.refl _ _)⟩
theorem wp_region_cls {P : Program} {id : Nat} {Q : Exit → Act → World → Prop} {a : Act} {w : World} {l : List Oper} (hm : P.follows .mixedOrders = true) (hB : Region.lexB .any l.toArray = true)
    (h : wpQuiet P l.toArray (fun w' => ∃ i : Cls w, w' = i.at) (fun a' => ∀ w', (∃ i : Cls w, w' = i.at) → Q .normal a' w') l a) : (Code.region id l.toArray true).wp P Q a w :=
  wp_region_quiet (C := fun w' => ∃ i : Cls w, w' = i.at) hm hB ⟨Cls.mk' (pw_below_drewN (Below.refl _ _) 1), rfl⟩ (by simpa using h)
theorem cls_call {P : Program} {f : FuncId} {args : Array Value} {w : World} {i : Cls w} {v : Value} (h : Calls P f args i.at fun e w' => e = .returned v ∧ Below i.at.heap.size i.at w') :
    Calls P f args i.at fun e w'' => e = .returned v ∧ ∃ j : Cls w, w'' = j.at :=
  h.mono fun _ _ ⟨he, hb⟩ => ⟨he, Cls.mk' (i.below.trans (hb.mono i.below.size)), rfl⟩
/-- A load of many cells in such a region. -/
theorem quiet_ld {P : Program} {w : World} {K : Act → Prop} {a : Act} {o : Oper} (ty : TypeId) (x : Operand) (ho : o.op = .load ty x) (ad : Addr) (hx : a.eval x = .pointer (some ad)) (v : Value)
    (hl : ∀ w', Below w.heap.size w w' → (Instr.loadAt ty (.pointer (some ad))).run P w' = .ok v w') (hk : K (a.put o.dst v)) : o.quiet P a (fun w' => ∃ i : Cls w, w' = i.at) K :=
  ⟨v, fun w' ⟨i, hi⟩ => by
    unfold Oper.quietAt execOp
    subst hi
    simp only [ho, hx, Sem.run_bind, hl _ i.below, Result.andThen_ok, Sem.run_pure]
    exact ⟨rfl, rfl⟩, hk⟩
/-- A load of many cells where the order is told. -/
theorem wpList_ld {P : Program} {ops : Array Oper} {rest : List Oper} {o : Oper} {a : Act} {w : World} {Q : Exit → Act → World → Prop} (hgd : o.guard = none) (ty : TypeId) (x : Operand) (ho : o.op = .load ty x)
    (ad : Addr) (hx : a.eval x = .pointer (some ad)) (v : Value) (hl : (Instr.loadAt ty (.pointer (some ad))).run P w = .ok v w)
    (h : wpList P ops Q rest (a.put o.dst v) w) : wpList P ops Q (o :: rest) a w :=
  wpList_plain hgd fun _ hK => by
    unfold Oper.wp execOp
    simp only [ho, hx, Sem.run_bind, hl, Result.andThen_ok, Sem.run_pure]
    exact hK _ _ h
set_option maxRecDepth 100000 in
set_option maxHeartbeats 4000000 in
theorem eqst_walk (l m : List Stp) (A B : Option Addr) (c d : Nat) (w : World) (hA : Kd.C kSt w A l.length l) (hB : Kd.C kSt w B m.length m) :
    Calls Try.prog 6 #[.slice A l.length c, .slice B m.length d] w fun e w' => e = .returned (.bool (decide (l = m))) ∧ Below w.heap.size w w' := by
  have HA := Lib.hid hA
  have HB := Lib.hid hB
  have hml := Kd.C_max hA
  obtain ⟨N, hN⟩ : ∃ N, l.length = N := ⟨_, rfl⟩
  obtain ⟨M, hM⟩ : ∃ M, m.length = M := ⟨_, rfl⟩
  have HN := Lib.hid hN
  have HM := Lib.hid hM
  rw [hN] at hml ⊢
  rw [hM]
  clear hA hB hN hM
  by_cases hNM : N = M
  · subst hNM
    go_enter Try.func6, Try.ntmps6
    go_wp2_with fail
    go_loopw [5] (fun v5 wr => ∃ (i : Nat), i ≤ N ∧ v5 = .int .i64 i ∧ Below w.heap.size w wr ∧ l.take i = m.take i) (fun v5 _ => N - (RowKit.intOf v5).toNat)
    case atStart => exact ⟨0, Nat.zero_le _, rfl, Below.refl _ _, by simp⟩
    case round =>
      obtain ⟨i, hi, rfl, hb, heq⟩ := hrel
      have HEQ := Lib.hid heq
      have HBB := Lib.hid hb
      clear heq hb
      by_cases hlt : i < N
      · have h1 : i < l.length := by rw [HN.out]; exact hlt
        have h2 : i < m.length := by rw [HM.out]; exact hlt
        obtain ⟨a, rfl, hs⟩ := C_st HA.out i h1
        obtain ⟨b, rfl, ht⟩ := C_st HB.out i h2
        have HT := Lib.hid (show l.take (i + 1) = m.take (i + 1) ↔ l[i] = m[i] by
          rw [List.take_succ_eq_append_getElem h1, List.take_succ_eq_append_getElem h2, HEQ.out]
          exact ⟨fun h => by simpa using List.append_cancel_left h, fun h => by rw [h]⟩)
        have HNE := Lib.hid (show l[i] ≠ m[i] → l ≠ m from fun h e => h (by subst e; rfl))
        obtain ⟨x, hx⟩ : ∃ x, l[i] = x := ⟨_, rfl⟩
        obtain ⟨y, hy⟩ : ∃ y, m[i] = y := ⟨_, rfl⟩
        rw [hx] at hs HT HNE
        rw [hy] at ht HT HNE
        have qi0 : (0 : Int) ≤ (i : Int) := by omega
        have qi1 : (i : Int) < (N : Int) := by omega
        have HL1 := Lib.hid (fun w' (h : Below wr.heap.size wr w') => ((hs.below HBB.out).below h).load)
        have HL2 := Lib.hid (fun w' (h : Below wr.heap.size wr w') => ((ht.below HBB.out).below h).load)
        have hn := neq_st hs.1 ht.1
        have hg := fun op a b => guard_st op a b x y
        clear hs ht hx hy h1 h2
        go_upto_region 6 with (fail)
        refine wp_region_cls (by kernel_rfl) (by kernel_rfl) ?_
        repeat (first | go_big_quiet_skip | (go_big_quiet_want; refine quiet_ld 32 (.tmp 19) rfl (a.add (i * 34)) rfl (vSt x) HL1.out ?_; (try simp only [Act.put, List.setIfInBounds_toArray, List.set_cons_zero, List.set_cons_succ]); go_big_quiet_on) | (go_big_quiet_want; refine quiet_ld 32 (.tmp 23) rfl (b.add (i * 34)) rfl (vSt y) HL2.out ?_; (try simp only [Act.put, List.setIfInBounds_toArray, List.set_cons_zero, List.set_cons_succ]); go_big_quiet_on) | go_big_quiet_step (fail))
        refine wpQuiet_nil ?_
        rintro wy ⟨q, rfl⟩
        have HQ := Lib.hid (HBB.out.trans (q.below.mono HBB.out.size))
        clear hn hg
        by_cases hxy : x = y
        · have hd : decide (x = y) = true := by simpa using hxy
          rw [hd]
          clear hd
          go_wp2_with fail
          go_roundw
          case rel => exact ⟨i + 1, by omega, by go_num, HQ.out, HT.out.2 hxy⟩
          all_goals (simp only [RowKit.intOf]; omega)
        · have hd : decide (x = y) = false := by simpa using hxy
          rw [hd]
          clear hd
          go_wp2_with fail
          go_ret
          refine ⟨?_, HQ.out⟩
          have := HNE.out hxy
          simp [this]
      · have he : i = N := by omega
        subst he
        have HLM := Lib.hid (show l = m by
          have h := HEQ.out
          rw [← HN.out, List.take_length, HN.out, ← HM.out, List.take_length] at h
          exact h)
        go_wp2_with fail
        go_ret
        refine ⟨?_, HBB.out⟩
        have := HLM.out
        simp [this]
  · have hne : ¬ (N : Int) = (M : Int) := by omega
    go_enter Try.func6, Try.ntmps6
    go_wp2_with fail
    go_ret
    refine ⟨?_, Below.refl _ _⟩
    have : l ≠ m := fun e => hNM (by rw [← HN.out, ← HM.out, e])
    simp [this]
end Go.Proofs.Ytkjaffnplehhaaa.Rg
