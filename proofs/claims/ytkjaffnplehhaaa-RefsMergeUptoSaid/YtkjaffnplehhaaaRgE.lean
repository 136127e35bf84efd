/- The walks of CmpID, better, bytes.Compare. -/
import Derived.Test.YtkjaffnplehhaaaRgD
import Derived.Lib.BytesEntry
namespace Go.Proofs.Ytkjaffnplehhaaa.Rg
open Go Go.Lib Go.RowKit Go.ChangeMaps Go.Proofs.YtkjaffnplehhaaaW.PrintWords Go.Proofs.YtkjaffnplehhaaaW.PrintLast Go.Proofs.YtkjaffnplehhaaaW.PrintMore Go.Proofs.Ytkjaffnplehhaaa.PRefsMerge
set_option linter.unusedVariables false
set_option linter.unusedSimpArgs false
/-- Bytes lie at a. -/
def ByAt (w : World) (a : Addr) (l : By) : Prop := ∀ j x, l[j]? = some x → w.cell? (a.add j) = some (.int .u8 (x.toNat : Int))
theorem ByAt.below {w w' : World} {a : Addr} {l : By} (h : ByAt w a l) (hb : Below w.heap.size w w') : ByAt w' a l := fun j x hj => pw_cell_below hb (h j x hj)
theorem ByAt.new (l : By) (w : World) (ty : TypeId) : ByAt (w.alloc (.cells (cl l).toArray ty)) ⟨w.heap.size, 0, none⟩ l := fun j x hj => by
  rw [Addr.add_lit, Nat.zero_add, cell_of_row _ _ _ _ _ _ (MapKept.heap_alloc w _).1]
  simp [hj]
theorem ByAt.C {w : World} {a : Addr} {l : By} (h : ByAt w a l) (hl : l.length ≤ 1000000000000) : Kd.C (Kd.int .u8) w (some a) (ints l).length (ints l) :=
  Kd.C_of_reads (d := (0 : Int)) ⟨rfl, by rw [ints_length]; omega, fun hn => ⟨a, rfl, fun j hj => by
    rw [ints_length] at hj
    rw [h j l[j] (List.getElem?_eq_getElem hj)]
    simp [ints, hj]⟩⟩
set_option maxRecDepth 100000 in
set_option maxHeartbeats 4000000 in
theorem cmpid_walk (a b : By) (ha : a.length = 32) (hb : b.length = 32) (w : World) :
    Calls Try.prog 8 #[.agg (cl a).toArray, .agg (cl b).toArray] w fun e w' => e = .returned (.int .i64 (compareBytes a b)) ∧ Below w.heap.size w w' := by
  obtain ⟨w1, hw1⟩ : ∃ w1, w.alloc (Obj.cells (cl a).toArray 29) = w1 := ⟨_, rfl⟩
  obtain ⟨w2, hw2⟩ : ∃ w2, w1.alloc (Obj.cells (cl b).toArray 29) = w2 := ⟨_, rfl⟩
  have HA1 : ByAt w1 ⟨w.heap.size, 0, none⟩ a := hw1 ▸ ByAt.new a w 29
  have HB2 : ByAt w2 ⟨w1.heap.size, 0, none⟩ b := hw2 ▸ ByAt.new b w1 29
  have hb12 : Below w1.heap.size w1 w2 := hw2 ▸ below_alloc (Below.refl _ _) _
  have HB1 := Lib.hid (show Below w.heap.size w w1 from hw1 ▸ below_alloc (Below.refl _ _) _)
  have HB12 := Lib.hid (HB1.out.trans (hb12.mono HB1.out.size))
  have HCP := Lib.hid (show ∀ i : Cls w2, Calls Try.prog 16 #[.slice (some ⟨w.heap.size, 0, none⟩) 32 32, .slice (some ⟨w1.heap.size, 0, none⟩) 32 32] i.at fun e w' => e = .returned (.int .i64 (compareBytes a b)) ∧ Below i.at.heap.size i.at w' from fun i => by
    have h := satchelref0_Cmp.calls (2 * a.length + 2) (some ⟨w.heap.size, 0, none⟩) 32 (ints a) (some ⟨w1.heap.size, 0, none⟩) 32 (ints b) (compareBytes a b) i.at
      ((((HA1.below hb12).below i.below).C (by omega))) (by rw [ints_length]; omega) ((HB2.below i.below).C (by omega)) (by rw [ints_length]; omega) (cmp_law a b (by omega))
    rw [ints_length, ints_length, ha, hb] at h
    exact h.mono (fun e w' ⟨h1, h2⟩ => ⟨h1, by obtain ⟨q, rfl⟩ := h2; exact pw_below_drewN (Below.refl _ _) q⟩))
  clear HA1 HB2 hb12
  go_enter Try.func8, Try.ntmps8
  go_wp2_with fail
  refine wp_region_cls (by kernel_rfl) (by kernel_rfl) ?_
  repeat (go_big_quiet_step (refine cls_call (HCP.out _)))
  refine wpQuiet_nil ?_
  rintro wy ⟨q, rfl⟩
  have HQ := Lib.hid (HB12.out.trans (q.below.mono HB12.out.size))
  go_wp2_with fail
  go_ret
  exact ⟨rfl, HQ.out⟩
theorem add_pos (a : Addr) (n : Nat) : a.add (n + 1) = ⟨a.block, a.off + (n + 1), none⟩ := by simp [Addr.add]
theorem StAt.name {w : World} {a : Addr} {x : Stp} (h : StAt w a x) : w.cell? a = some (.string ⟨x.n.toArray⟩) := by
  have := h.2 0 _ (by rw [encSt_eq]; rfl)
  rwa [show a.add 0 = a from by simp [Addr.add]] at this
theorem StAt.seq {w : World} {a : Addr} {x : Stp} (h : StAt w a x) : w.cell? ⟨a.block, a.off + 33, none⟩ = some (.int .u64 (x.seq : Int)) := by
  have := h.2 33 (.int .u64 (x.seq : Int)) (by rw [encSt_eq]; simp [h.1.id])
  rwa [add_pos a 32] at this
theorem StAt.id {w : World} {a : Addr} {x : Stp} (h : StAt w a x) : ByAt w ⟨a.block, a.off + 1, none⟩ x.id := fun j y hj => by
  have hl := (List.getElem?_eq_some_iff.1 hj).1
  have := h.2 (j + 1) (.int .u8 (y.toNat : Int)) (by
    rw [encSt_eq, List.getElem?_cons_succ, List.getElem?_append_left (by simpa using hl)]
    simp [hj])
  rw [add_pos] at this
  rw [Addr.add_lit, ← this]
  congr 2
  omega
theorem ByAt.load {w : World} {a : Addr} {l : By} (h : ByAt w a l) (hl : l.length = 32) : (Instr.loadAt 29 (.pointer (some a))).run Try.prog w = .ok (.agg (cl l).toArray) w := by
  have hc := run_loadCells_list (P := Try.prog) w a (cl l) (fun j v hj => by
    rw [List.getElem?_map] at hj
    cases hq : l[j]? with
    | none => simp [hq] at hj
    | some x => rw [hq] at hj; obtain rfl := (by simpa using hj : _ = v); exact h j x hq)
  rw [List.length_map, hl] at hc
  simp only [Instr.loadAt, Instr.sureAddr, Sem.run_bind, Sem.run_pure, Result.andThen_ok, loadVar, Try.isAgg29, if_true, Try.sizeOf29, hc]
/-- A load of many cells where the order is told, under a guard that stands. -/
theorem wpList_ldg {P : Program} {ops : Array Oper} {rest : List Oper} {o : Oper} {a : Act} {w : World} {Q : Exit → Act → World → Prop} (hgd : Region.wanted o (yielded ops a.tmps) = true) (ty : TypeId) (x : Operand) (ho : o.op = .load ty x)
    (ad : Addr) (hx : a.eval x = .pointer (some ad)) (v : Value) (hl : (Instr.loadAt ty (.pointer (some ad))).run P w = .ok v w)
    (h : wpList P ops Q rest (a.put o.dst v) w) : wpList P ops Q (o :: rest) a w :=
  wpList_step fun K hK => by
    rw [if_pos hgd]
    unfold Oper.wp execOp
    simp only [ho, hx, Sem.run_bind, hl, Result.andThen_ok, Sem.run_pure]
    exact hK _ _ h
def better (x y : Stp) : Bool := decide (y.seq < x.seq ∨ (x.seq = y.seq ∧ y.id < x.id))
set_option maxRecDepth 100000 in
set_option maxHeartbeats 4000000 in
theorem better_walk (x y : Stp) (hx : x.Ok) (hy : y.Ok) (w : World) :
    Calls Try.prog 17 #[vSt x, vSt y] w fun e w' => e = .returned (.bool (better x y)) ∧ Below w.heap.size w w' := by
  obtain ⟨w1, hw1⟩ : ∃ w1, w.alloc (Obj.cells (encSt x).toArray 32) = w1 := ⟨_, rfl⟩
  obtain ⟨w2, hw2⟩ : ∃ w2, w1.alloc (Obj.cells (encSt y).toArray 32) = w2 := ⟨_, rfl⟩
  have HX1 : StAt w1 ⟨w.heap.size, 0, none⟩ x := hw1 ▸ StAt.new hx w 32
  have HY2 : StAt w2 ⟨w1.heap.size, 0, none⟩ y := hw2 ▸ StAt.new hy w1 32
  have hb12 : Below w1.heap.size w1 w2 := hw2 ▸ below_alloc (Below.refl _ _) _
  have HB1 := Lib.hid (show Below w.heap.size w w1 from hw1 ▸ below_alloc (Below.refl _ _) _)
  have HB12 := Lib.hid (HB1.out.trans (hb12.mono HB1.out.size))
  have HX2 := HX1.below hb12
  have sx := HX2.seq
  have sy := HY2.seq
  have ix := (HX2.id.load hx.id)
  have iy := (HY2.id.load hy.id)
  simp only [Nat.zero_add] at sx sy ix iy
  have HIX := Lib.hid ix
  have HIY := Lib.hid iy
  have HCI := Lib.hid (cmpid_walk x.id y.id hx.id hy.id w2)
  have HGT := Lib.hid (cmpb_gt x.id y.id)
  clear HX1 HY2 hb12 HX2 ix iy
  have HBT := Lib.hid (show better x y = decide (y.seq < x.seq ∨ (x.seq = y.seq ∧ y.id < x.id)) from rfl)
  by_cases h1 : y.seq < x.seq
  · have h1' : (y.seq : Int) < (x.seq : Int) := by omega
    have HR := Lib.hid (show better x y = true by rw [HBT.out]; simp [h1])
    go_enter Try.func17, Try.ntmps17
    go_wp2_with fail
    go_ret
    exact ⟨by rw [HR.out]; rfl, HB12.out⟩
  · by_cases h2 : x.seq = y.seq
    · have h2' : (x.seq : Int) = (y.seq : Int) := by omega
      have HR := Lib.hid (show better x y = decide (0 < compareBytes x.id y.id) by
        rw [HBT.out]
        congr 1
        rw [HGT.out]
        simp [h2])
      rw [h2'] at sx
      clear h1
      obtain ⟨n, hn⟩ : ∃ n : Int, (y.seq : Int) = n := ⟨_, rfl⟩
      rw [hn] at sx sy
      obtain ⟨c, hc⟩ : ∃ c, compareBytes x.id y.id = c := ⟨_, rfl⟩
      rw [hc] at HCI HR
      clear hn h2 h2' hc
      by_cases h3 : 0 < c
      · go_enter Try.func17, Try.ntmps17
        go_wp2_with (first | (with_reducible refine wpList_ldg rfl 29 (.tmp 17) rfl ⟨w.heap.size, 1, none⟩ rfl _ HIX.out ?_) | (with_reducible refine wpList_ldg rfl 29 (.tmp 19) rfl ⟨w1.heap.size, 1, none⟩ rfl _ HIY.out ?_) | (go_at_call 8; refine HCI.out.mono ?_; rintro e w3 ⟨rfl, hb3⟩; have HB3 := Lib.hid hb3; clear hb3))
        go_ret
        exact ⟨by rw [HR.out]; simp [h3], HB12.out.trans (HB3.out.mono HB12.out.size)⟩
      · go_enter Try.func17, Try.ntmps17
        go_wp2_with (first | (with_reducible refine wpList_ldg rfl 29 (.tmp 17) rfl ⟨w.heap.size, 1, none⟩ rfl _ HIX.out ?_) | (with_reducible refine wpList_ldg rfl 29 (.tmp 19) rfl ⟨w1.heap.size, 1, none⟩ rfl _ HIY.out ?_) | (go_at_call 8; refine HCI.out.mono ?_; rintro e w3 ⟨rfl, hb3⟩; have HB3 := Lib.hid hb3; clear hb3))
        go_ret
        exact ⟨by rw [HR.out]; simp [h3], HB12.out.trans (HB3.out.mono HB12.out.size)⟩
    · have h1' : ¬ (y.seq : Int) < (x.seq : Int) := by omega
      have h2' : ¬ (x.seq : Int) = (y.seq : Int) := by omega
      have HR := Lib.hid (show better x y = false by rw [HBT.out]; simp [h1, h2])
      go_enter Try.func17, Try.ntmps17
      go_wp2_with fail
      go_ret
      exact ⟨by rw [HR.out]; rfl, HB12.out⟩
theorem better_bt (x y : Stp) : better x y = true ↔ bt x y := by unfold better bt; simp
theorem ints_bytes (l : By) : Lib.bytesOf (ints l) = l := by
  unfold Lib.bytesOf ints
  rw [List.map_map]
  exact (List.map_congr_left (fun b _ => by simp)).trans (List.map_id _)
theorem bytesOf_at {w : World} {a : Addr} {l : By} (h : ByAt w a l) (c : Nat) : (Extern.Bytes.bytesOf (.slice (some a) l.length c)).run Try.prog w = .ok ⟨l.toArray⟩ w := by
  have hl := run_loadBytesX (P := Try.prog) w (ints l) a .empty (fun j x hj => by
    unfold ints at hj
    rw [List.getElem?_map] at hj
    cases hq : l[j]? with
    | none => simp [hq] at hj
    | some y => rw [hq] at hj; obtain rfl := (by simpa using hj : _ = x); exact h j y hq)
  rw [ints_length, ints_bytes] at hl
  refine hl.trans ?_
  congr 1
  apply ByteArray.ext
  simp
theorem run_bcmp {w : World} {a b : Addr} {l m : By} (ha : ByAt w a l) (hb : ByAt w b m) (c d : Nat) :
    (callFunc 20 #[.slice (some a) l.length c, .slice (some b) m.length d]).run Try.prog w = .ok (.value (.int .i64 (compareBytes l m))) w := by
  rw [run_callFunc_extern Try.func20 (by kernel_rfl) (by kernel_rfl) (by kernel_rfl) (e := Extern.BytealgCompare.compare) (by kernel_rfl)]
  have : (Extern.BytealgCompare.compare #[.slice (some a) l.length c, .slice (some b) m.length d]).run Try.prog w = .ok (.int .i64 (compareBytes l m)) w := by
    change Sem.run Try.prog (do pure (goInt (Extern.BytealgCompare.cmp (← Extern.Bytes.bytesOf (.slice (some a) l.length c)) (← Extern.Bytes.bytesOf (.slice (some b) m.length d))))) w = _
    simp only [Sem.run_bind, bytesOf_at ha, bytesOf_at hb, Sem.run_pure, Result.andThen]
    rw [cmp_eq]
    rfl
  rw [this]
  rfl
set_option maxRecDepth 100000 in
set_option maxHeartbeats 4000000 in
theorem bcmp_walk (l m : By) (a b : Addr) (c d : Nat) (w : World) (ha : ByAt w a l) (hb : ByAt w b m) :
    Calls Try.prog 12 #[.slice (some a) l.length c, .slice (some b) m.length d] w fun e w' => e = .returned (.int .i64 (compareBytes l m)) ∧ w' = w := by
  have hr := run_bcmp ha hb c d
  clear ha hb
  obtain ⟨r, hr'⟩ : ∃ r, compareBytes l m = r := ⟨_, rfl⟩
  rw [hr'] at hr ⊢
  go_enter Try.func12, Try.ntmps12
  go_wp2_with fail
  go_ret
  exact ⟨rfl, rfl⟩
end Go.Proofs.Ytkjaffnplehhaaa.Rg
