/- The walks of slices.Contains of ids, and of the four checks of object. -/
import Derived.Test.YtfbkkcigkpffiaaDoorGw
import Derived.Test.YtfbkkcigkpffiaaDoorGh
namespace Go.Proofs.YtfbkkcigkpffiaaDoor.St
open Go Go.Lib Go.RowKit Go.ChangeMaps Go.Proofs.YtfbkkcigkpffiaaDoorW.PrintWords Go.Proofs.YtfbkkcigkpffiaaDoorW.PrintLast Go.Proofs.YtfbkkcigkpffiaaDoorW.PrintMore Go.Proofs.YtfbkkcigkpffiaaDoor.PStoreMany
set_option linter.unusedVariables false
set_option linter.unusedSimpArgs false
theorem eql33 {a b : By} (ha : a.length = 32) (hb : b.length = 32) (W : World) : (binOp .eql 33 (vId a) (vId b)).run Tryd.prog W = .ok (.bool (decide (b = a))) W := by
  have h := equal33 ha hb W
  unfold binOp
  simp only [Sem.run_bind, h, Result.andThen_ok, Sem.run_pure]
theorem guard33 (op : BinOp) (a b : Operand) (x y : By) (w : World) : (eqGuard op 33 a b (vId x) (vId y)).run Tryd.prog w = .ok () w := run_eqGuard_agg w op 33 a b _ _ Tryd.eqGuardType33
/-- Cells at an address. -/
def CellsAt (w : World) (a : Addr) (cs : List Value) : Prop := ∀ j v, cs[j]? = some v → w.cell? (a.add j) = some v
theorem CellsAt.below {w w' : World} {a : Addr} {cs : List Value} (h : CellsAt w a cs) (hb : Below w.heap.size w w') : CellsAt w' a cs := fun j v hj => pw_cell_below hb (h j v hj)
theorem CellsAt.load {w : World} {a : Addr} {cs : List Value} (h : CellsAt w a cs) (ty : TypeId) (hagg : ∀ w, (isAgg ty).run Tryd.prog w = .ok true w) (hsz : ∀ w, (sizeOf ty).run Tryd.prog w = .ok cs.length w) : (Instr.loadAt ty (.pointer (some a))).run Tryd.prog w = .ok (.agg cs.toArray) w := by
  have hl := run_loadCells_list (P := Tryd.prog) w a cs h
  simp only [Instr.loadAt, Instr.sureAddr, Sem.run_bind, Sem.run_pure, Result.andThen_ok, loadVar, hagg, if_true, hsz, hl]
theorem C_at {w : World} {A : Option Addr} {L : List By} (h : Kd.C kI w A L.length L) (i : Nat) (hi : i < L.length) : ∃ ad, A = some ad ∧ CellsAt w (ad.add (i * 32)) (cl L[i]) := by
  obtain ⟨ad, hA, hcell⟩ := h.2.2 (by omega)
  obtain ⟨cs, _, hk, hc⟩ := hcell i _ (List.getElem?_eq_getElem hi)
  refine ⟨ad, hA, fun j v hj => ?_⟩
  have := hc j v (by rw [hk.2]; exact hj)
  rw [Addr.add_add]
  exact this
set_option maxRecDepth 100000 in
set_option maxHeartbeats 4000000 in
theorem indexI_walk (L : List By) (d : By) (hd : d.length = 32) (A : Option Addr) (c : Nat) (w : World) (hC : Kd.C kI w A L.length L) (hL : ∀ x ∈ L, x.length = 32) :
    Calls Tryd.prog 119 #[.slice A L.length c, vId d] w fun e w' => ∃ x : Int, e = .returned (.int .i64 x) ∧ (0 ≤ x ↔ d ∈ L) ∧ Below w.heap.size w w' := by
  obtain ⟨w1, hw1⟩ : ∃ w1, w.alloc (.cells (cl d).toArray 33) = w1 := ⟨_, rfl⟩
  have HW1 := Lib.hid hw1
  have HB1 := Lib.hid (show Below w.heap.size w w1 from hw1 ▸ below_alloc (Below.refl _ _) _)
  have HI := Lib.hid (show Blk w1 w.heap.size 33 (cl d) from hw1 ▸ Blk.new w 33 (cl d))
  have HC := Lib.hid (Kd.C_below hC HB1.out)
  have HL := Lib.hid hL
  have HD := Lib.hid hd
  have hl : L.length ≤ 9223372036854775807 := hC.2.1
  obtain ⟨N, hN⟩ : ∃ N, L.length = N := ⟨_, rfl⟩
  have HN := Lib.hid hN
  rw [hN] at hl ⊢
  clear hC hN hL hd hw1
  go_enter Tryd.func119, Tryd.ntmps119
  go_upto_region 1 with fail
  change Code.wp _ _ _ _ (w.alloc (.cells (cl d).toArray 33))
  rw [HW1.out]
  go_wp2_with fail
  go_loopw [8] (fun v8 wr => ∃ i : Nat, i ≤ N ∧ v8 = .int .i64 i ∧ Hid (d ∉ L.take i) ∧ Below w1.heap.size w1 wr) (fun v8 _ => N - (RowKit.intOf v8).toNat)
  case atStart => exact ⟨0, Nat.zero_le _, rfl, Lib.hid (by simp), Below.refl _ _⟩
  case round =>
    obtain ⟨i, hi, rfl, hno, hbw⟩ := hrel
    have HBW := Lib.hid hbw
    clear hbw
    by_cases hlt : i < N
    · have hlt' : (i : Int) < (N : Int) := by omega
      have hi0 : (0 : Int) ≤ (i : Int) := by omega
      have hil : i < L.length := by rw [HN.out]; exact hlt
      obtain ⟨ad, rfl, hat⟩ := C_at HC.out i hil
      have HT := Lib.hid (show L.take (i + 1) = L.take i ++ [L[i]] from List.take_succ_eq_append_getElem hil)
      have HM := Lib.hid (show L[i] ∈ L from List.getElem_mem hil)
      have HXL := Lib.hid (HL.out _ (List.getElem_mem hil))
      obtain ⟨x, hx⟩ : ∃ x, L[i] = x := ⟨_, rfl⟩
      rw [hx] at hat HT HM HXL
      have HL1 := Lib.hid (fun w' (h : Below wr.heap.size wr w') => ((HI.out.below HBW.out).below h).loads 33 Tryd.isAgg33 (fun W => by rw [List.length_map, HD.out]; exact Tryd.sizeOf33 W))
      have HL2 := Lib.hid (fun w' (h : Below wr.heap.size wr w') => ((hat.below HBW.out).below h).load 33 Tryd.isAgg33 (fun W => by rw [List.length_map, HXL.out]; exact Tryd.sizeOf33 W))
      have hn := eql33 HD.out HXL.out
      have hg := fun op a b => guard33 op a b d x
      clear hx hat
      by_cases hv : d = x
      · rw [decide_eq_true hv.symm] at hn
        have HV := Lib.hid hv
        clear hv
        go_upto_region 4 with fail
        refine wp_region_cls (by kernel_rfl) (by kernel_rfl) ?_
        repeat (first | go_big_quiet_skip | (go_big_quiet_want; refine quiet_ld 33 (.tmp 3) rfl ⟨w.heap.size, 0, none⟩ rfl (vId d) HL1.out ?_; (try simp only [Act.put, List.setIfInBounds_toArray, List.set_cons_zero, List.set_cons_succ]); go_big_quiet_on) | (go_big_quiet_want; refine quiet_ld 33 (.tmp 14) rfl (ad.add (i * 32)) rfl (vId x) HL2.out ?_; (try simp only [Act.put, List.setIfInBounds_toArray, List.set_cons_zero, List.set_cons_succ]); go_big_quiet_on) | go_big_quiet_step (fail))
        refine wpQuiet_nil ?_
        rintro wy ⟨q, rfl⟩
        have HB := Lib.hid (HB1.out.trans ((HBW.out.trans (q.below.mono HBW.out.size)).mono HB1.out.size))
        clear HL1 HL2 hn hg
        go_wp2_with fail
        go_ret
        exact ⟨(i : Int), rfl, by rw [HV.out]; exact ⟨fun _ => HM.out, fun _ => by omega⟩, HB.out⟩
      · rw [decide_eq_false (fun h => hv h.symm)] at hn
        have HV := Lib.hid hv
        clear hv
        go_upto_region 4 with fail
        refine wp_region_cls (by kernel_rfl) (by kernel_rfl) ?_
        repeat (first | go_big_quiet_skip | (go_big_quiet_want; refine quiet_ld 33 (.tmp 3) rfl ⟨w.heap.size, 0, none⟩ rfl (vId d) HL1.out ?_; (try simp only [Act.put, List.setIfInBounds_toArray, List.set_cons_zero, List.set_cons_succ]); go_big_quiet_on) | (go_big_quiet_want; refine quiet_ld 33 (.tmp 14) rfl (ad.add (i * 32)) rfl (vId x) HL2.out ?_; (try simp only [Act.put, List.setIfInBounds_toArray, List.set_cons_zero, List.set_cons_succ]); go_big_quiet_on) | go_big_quiet_step (fail))
        refine wpQuiet_nil ?_
        rintro wy ⟨q, rfl⟩
        have HB := Lib.hid (HBW.out.trans (q.below.mono HBW.out.size))
        obtain ⟨w8, hw8⟩ : ∃ w8, q.at = w8 := ⟨_, rfl⟩
        rw [hw8] at HB ⊢
        clear HL1 HL2 hn hg hw8
        go_wp2_with fail
        go_roundw
        case rel => exact ⟨i + 1, by omega, by go_num, Lib.hid (by rw [HT.out]; intro h; rcases List.mem_append.1 h with h | h; exact hno.out h; exact HV.out (List.mem_singleton.1 h)), HB.out⟩
        all_goals (simp only [RowKit.intOf]; omega)
    · obtain rfl : i = N := by omega
      have HF := Lib.hid (show L.take i = L from List.take_of_length_le (by rw [HN.out]; exact Nat.le_refl _))
      go_wp2_with fail
      go_ret
      exact ⟨-1, rfl, ⟨fun h => absurd h (by decide), fun h => absurd (by rw [HF.out]; exact h) hno.out⟩, HB1.out.trans (HBW.out.mono HB1.out.size)⟩
set_option maxRecDepth 100000 in
set_option maxHeartbeats 4000000 in
theorem containsI_walk (L : List By) (d : By) (hd : d.length = 32) (A : Option Addr) (c : Nat) (w : World) (hC : Kd.C kI w A L.length L) (hL : ∀ x ∈ L, x.length = 32) :
    Calls Tryd.prog 117 #[.slice A L.length c, vId d] w fun e w' => e = .returned (.bool (decide (d ∈ L))) ∧ Below w.heap.size w w' := by
  obtain ⟨w1, hw1⟩ : ∃ w1, w.alloc (.cells (cl d).toArray 33) = w1 := ⟨_, rfl⟩
  have HW1 := Lib.hid hw1
  have HB1 := Lib.hid (show Below w.heap.size w w1 from hw1 ▸ below_alloc (Below.refl _ _) _)
  have HLD := Lib.hid ((show Blk w1 w.heap.size 33 (cl d) from hw1 ▸ Blk.new w 33 (cl d)).loads 33 Tryd.isAgg33 (fun W => by rw [List.length_map, hd]; exact Tryd.sizeOf33 W))
  have HI := Lib.hid (indexI_walk L d hd A c w1 (Kd.C_below hC HB1.out) hL)
  obtain ⟨N, hN⟩ : ∃ N, L.length = N := ⟨_, rfl⟩
  rw [hN] at HI ⊢
  obtain ⟨R, hR⟩ : ∃ R, decide (d ∈ L) = R := ⟨_, rfl⟩
  have HR := Lib.hid hR
  rw [hR]
  clear hC hN hR hL hd hw1
  go_enter Tryd.func117, Tryd.ntmps117
  go_upto_region 1 with fail
  change Code.wp _ _ _ _ (w.alloc (.cells (cl d).toArray 33))
  rw [HW1.out]
  go_wp2_with (with_reducible refine wpList_ld rfl 33 (.tmp 3) rfl ⟨w.heap.size, 0, none⟩ rfl _ HLD.out ?_)
  refine HI.out.mono ?_
  rintro e w2 ⟨x, rfl, hx, hb⟩
  have HX := Lib.hid hx
  have HB := Lib.hid (HB1.out.trans (hb.mono HB1.out.size))
  clear hx hb
  by_cases h0 : 0 ≤ x
  · go_wp2_with fail
    go_ret
    exact ⟨by rw [← HR.out, decide_eq_true (HX.out.1 h0)]; rfl, HB.out⟩
  · have hd : decide (0 ≤ x) = false := decide_eq_false h0
    go_wp2_with fail
    go_ret
    exact ⟨by rw [← HR.out, decide_eq_false (p := d ∈ L) (fun h => by have := HX.out.2 h; omega)]; rfl, HB.out⟩
end Go.Proofs.YtfbkkcigkpffiaaDoor.St

namespace Go.Proofs.YtfbkkcigkpffiaaDoor.St
open Go Go.Lib Go.RowKit Go.ChangeMaps Go.Proofs.YtfbkkcigkpffiaaDoorW.PrintWords Go.Proofs.YtfbkkcigkpffiaaDoorW.PrintLast Go.Proofs.YtfbkkcigkpffiaaDoorW.PrintMore Go.Proofs.YtfbkkcigkpffiaaDoor.PStoreMany
set_option linter.unusedVariables false
set_option linter.unusedSimpArgs false
/-- A tag that may be. -/
def TagOk (tb : Tb) (v : TagV) : Prop := (1 ≤ v.kd ∧ v.kd ≤ 4) ∧ nameB tb (strOfNums v.nm) = true ∧ writtenB tb (strOfNums v.who) v.tm (strOfNums v.tx) = true
set_option maxRecDepth 100000 in
set_option maxHeartbeats 4000000 in
theorem tagcheck_walk (tb : Tb) (v : TagV) (hv : v.id.length = 32) (hn : v.nm.length ≤ 1000000000) (ho : v.who.length ≤ 1000000000) (w : World) (hT : U8T tb w) :
    Calls Tryd.prog 120 #[.agg v.cells.toArray] w fun e w' => ∃ x : Int, e = .returned (.int .i64 x) ∧ (x = 0 ↔ TagOk tb v) ∧ Below w.heap.size w w' := by
  obtain ⟨d, kd, nm, who, tm, tx⟩ := v
  obtain ⟨w1, hw1⟩ : ∃ w1, w.alloc (.cells (TagV.cells ⟨d, kd, nm, who, tm, tx⟩).toArray 117) = w1 := ⟨_, rfl⟩
  have HW1 := Lib.hid hw1
  have HB1 := Lib.hid (show Below w.heap.size w w1 from hw1 ▸ below_alloc (Below.refl _ _) _)
  have HI := Lib.hid (show Blk w1 w.heap.size 117 (TagV.cells ⟨d, kd, nm, who, tm, tx⟩) from hw1 ▸ Blk.new w 117 _)
  have hcell : ∀ j : Nat, w1.cell? ⟨w.heap.size, 32 + j, none⟩ = [Value.int .i64 kd, sv nm, sv who, .int .u64 tm, sv tx][j]? := fun j => by
    rw [HI.out.cell]
    unfold TagV.cells
    rw [List.getElem?_append_right (by rw [List.length_map]; show d.length ≤ _; rw [show d.length = 32 from hv]; omega), List.length_map, show d.length = 32 from hv, Nat.add_sub_cancel_left]
  have HCE := Lib.hid hcell
  have HN := Lib.hid (fun W (hb : Below w1.heap.size w1 W) => name_walk tb (strOfNums nm) W (by rw [strOfNums_size]; show nm.length ≤ _; exact Nat.le_trans hn (by decide)) ((hT.below HB1.out).below hb))
  have HWR := Lib.hid (fun W (hb : Below w1.heap.size w1 W) => written_walk tb (strOfNums who) tm (strOfNums tx) W (by rw [strOfNums_size]; show who.length ≤ _; exact Nat.le_trans ho (by decide)) ((hT.below HB1.out).below hb))
  have HOK := Lib.hid (show TagOk tb ⟨d, kd, nm, who, tm, tx⟩ ↔ ((1 ≤ kd ∧ kd ≤ 4) ∧ nameB tb (strOfNums nm) = true ∧ writtenB tb (strOfNums who) tm (strOfNums tx) = true) from Iff.rfl)
  obtain ⟨P, hP⟩ : ∃ P, TagOk tb ⟨d, kd, nm, who, tm, tx⟩ = P := ⟨_, rfl⟩
  rw [hP] at HOK ⊢
  have c1 := hcell 0
  have c2 := hcell 1
  have c3 := hcell 2
  have c4 := hcell 3
  have c5 := hcell 4
  simp only [Nat.add_zero, Nat.reduceAdd, List.getElem?_cons_zero, List.getElem?_cons_succ] at c1 c2 c3 c4 c5
  clear hw1 hT hv hn ho hP hcell
  by_cases hk1 : kd < 1
  · go_enter Tryd.func120, Tryd.ntmps120
    go_upto_region 1 with fail
    change Code.wp _ _ _ _ (w.alloc (.cells (TagV.cells ⟨d, kd, nm, who, tm, tx⟩).toArray 117))
    rw [HW1.out]
    go_wp2_with fail
    go_ret
    exact ⟨30, rfl, ⟨fun h => absurd h (by decide), fun h => by have := (HOK.out.1 h).1; omega⟩, HB1.out⟩
  · by_cases hk2 : 4 < kd
    · go_enter Tryd.func120, Tryd.ntmps120
      go_upto_region 1 with fail
      change Code.wp _ _ _ _ (w.alloc (.cells (TagV.cells ⟨d, kd, nm, who, tm, tx⟩).toArray 117))
      rw [HW1.out]
      go_wp2_with fail
      go_ret
      exact ⟨30, rfl, ⟨fun h => absurd h (by decide), fun h => by have := (HOK.out.1 h).1; omega⟩, HB1.out⟩
    · have HN1 := Lib.hid (HN.out w1 (Below.refl _ _))
      cases hn : nameB tb (strOfNums nm) with
      | false =>
        rw [hn] at HN1 HOK
        clear hn
        go_enter Tryd.func120, Tryd.ntmps120
        go_upto_region 1 with fail
        change Code.wp _ _ _ _ (w.alloc (.cells (TagV.cells ⟨d, kd, nm, who, tm, tx⟩).toArray 117))
        rw [HW1.out]
        go_wp2_with fail
        refine HN1.out.mono ?_
        rintro e w2 ⟨rfl, hb⟩
        have HB := Lib.hid (HB1.out.trans (hb.mono HB1.out.size))
        clear hb
        go_wp2_with fail
        go_ret
        exact ⟨32, rfl, ⟨fun h => absurd h (by decide), fun h => by have := (HOK.out.1 h).2.1; cases this⟩, HB.out⟩
      | true =>
        rw [hn] at HN1 HOK
        clear hn
        cases ho : writtenB tb (strOfNums who) tm (strOfNums tx) with
        | false =>
          rw [ho] at HWR HOK
          clear ho
          go_enter Tryd.func120, Tryd.ntmps120
          go_upto_region 1 with fail
          change Code.wp _ _ _ _ (w.alloc (.cells (TagV.cells ⟨d, kd, nm, who, tm, tx⟩).toArray 117))
          rw [HW1.out]
          go_wp2_with fail
          refine HN1.out.mono ?_
          rintro e w2 ⟨rfl, hb⟩
          have HB2 := Lib.hid hb
          have e3 := pw_cell_below hb c3
          have e4 := pw_cell_below hb c4
          have e5 := pw_cell_below hb c5
          clear hb
          go_wp2_with fail
          refine (HWR.out w2 HB2.out).mono ?_
          rintro e w3 ⟨rfl, hb⟩
          have HB3 := Lib.hid (HB1.out.trans ((HB2.out.trans (hb.mono HB2.out.size)).mono HB1.out.size))
          clear hb
          go_wp2_with fail
          go_ret
          exact ⟨36, rfl, ⟨fun h => absurd h (by decide), fun h => by have := (HOK.out.1 h).2.2; cases this⟩, HB3.out⟩
        | true =>
          rw [ho] at HWR HOK
          clear ho
          go_enter Tryd.func120, Tryd.ntmps120
          go_upto_region 1 with fail
          change Code.wp _ _ _ _ (w.alloc (.cells (TagV.cells ⟨d, kd, nm, who, tm, tx⟩).toArray 117))
          rw [HW1.out]
          go_wp2_with fail
          refine HN1.out.mono ?_
          rintro e w2 ⟨rfl, hb⟩
          have HB2 := Lib.hid hb
          have e3 := pw_cell_below hb c3
          have e4 := pw_cell_below hb c4
          have e5 := pw_cell_below hb c5
          clear hb
          go_wp2_with fail
          refine (HWR.out w2 HB2.out).mono ?_
          rintro e w3 ⟨rfl, hb⟩
          have HB3 := Lib.hid (HB1.out.trans ((HB2.out.trans (hb.mono HB2.out.size)).mono HB1.out.size))
          clear hb
          go_wp2_with fail
          go_ret
          exact ⟨0, rfl, ⟨fun _ => HOK.out.2 ⟨⟨by omega, by omega⟩, by first | rfl | trivial, by first | rfl | trivial⟩, fun _ => rfl⟩, HB3.out⟩
theorem C_take {w : World} {A : Option Addr} {L : List By} (h : Kd.C kI w A L.length L) (i : Nat) : Kd.C kI w A (L.take i).length (L.take i) :=
  ⟨rfl, by have h1 := h.2.1; have h2 : (L.take i).length ≤ L.length := List.length_take_le' i L; exact Nat.le_trans h2 h1, fun hp => by
    have hl : 0 < L.length := by rw [List.length_take] at hp; omega
    obtain ⟨ad, hA, hc⟩ := h.2.2 hl
    refine ⟨ad, hA, fun j x hj => hc j x ?_⟩
    rw [List.getElem?_take] at hj
    split at hj
    · exact hj
    · cases hj⟩
/-- A commit that may be. -/
def ComOk (tb : Tb) (v : ComV) : Prop := v.ps.length ≤ 8 ∧ (∀ j (h : j < v.ps.length), v.ps[j] ∉ v.ps.take j) ∧ writtenB tb (strOfNums v.who) v.tm (strOfNums v.tx) = true
theorem comC_cell {w : World} {r : Nat} {d : By} (hd : d.length = 32) {v : Value} {o x : List Int} {t : Int} (h : Blk w r 116 (comC d v o t x)) (j : Nat) : w.cell? ⟨r, 32 + j, none⟩ = [v, sv o, .int .u64 t, sv x][j]? := by
  rw [h.cell]
  unfold comC
  rw [List.getElem?_append_right (by rw [List.length_map, hd]; omega), List.length_map, hd, Nat.add_sub_cancel_left]
set_option maxRecDepth 100000 in
set_option maxHeartbeats 4000000 in
theorem comcheck_walk (tb : Tb) (v : ComV) (A : Option Addr) (c : Nat) (hv : v.id.length = 32) (hp32 : ∀ x ∈ v.ps, x.length = 32) (ho : v.who.length ≤ 1000000000) (w : World) (hT : U8T tb w) (hC : Kd.C kI w A v.ps.length v.ps) (hc : v.ps.length ≤ c) :
    Calls Tryd.prog 114 #[.agg (comC v.id (.slice A v.ps.length c) v.who v.tm v.tx).toArray] w fun e w' => ∃ x : Int, e = .returned (.int .i64 x) ∧ (x = 0 ↔ ComOk tb v) ∧ Below w.heap.size w w' := by
  obtain ⟨d, ps, who, tm, tx⟩ := v
  obtain ⟨V, hV⟩ : ∃ V, Value.slice A ps.length c = V := ⟨_, rfl⟩
  show Calls Tryd.prog 114 #[.agg (comC d (.slice A ps.length c) who tm tx).toArray] w fun e w' => ∃ x : Int, e = .returned (.int .i64 x) ∧ (x = 0 ↔ ComOk tb ⟨d, ps, who, tm, tx⟩) ∧ Below w.heap.size w w'
  obtain ⟨w1, hw1⟩ : ∃ w1, w.alloc (.cells (comC d (.slice A ps.length c) who tm tx).toArray 116) = w1 := ⟨_, rfl⟩
  have HW1 := Lib.hid hw1
  have HB1 := Lib.hid (show Below w.heap.size w w1 from hw1 ▸ below_alloc (Below.refl _ _) _)
  have HI := Lib.hid (show Blk w1 w.heap.size 116 (comC d (.slice A ps.length c) who tm tx) from hw1 ▸ Blk.new w 116 _)
  have hcell := comC_cell hv HI.out
  have HCE := Lib.hid hcell
  have HC := Lib.hid (show Kd.C kI w1 A ps.length ps from Kd.C_below hC HB1.out)
  have HWR := Lib.hid (fun W (hb : Below w1.heap.size w1 W) => written_walk tb (strOfNums who) tm (strOfNums tx) W (by rw [strOfNums_size]; show who.length ≤ _; exact Nat.le_trans ho (by decide)) ((hT.below HB1.out).below hb))
  have HOK := Lib.hid (show ComOk tb ⟨d, ps, who, tm, tx⟩ ↔ (ps.length ≤ 8 ∧ (∀ j (h : j < ps.length), ps[j] ∉ ps.take j) ∧ writtenB tb (strOfNums who) tm (strOfNums tx) = true) from Iff.rfl)
  obtain ⟨P, hP⟩ : ∃ P, ComOk tb ⟨d, ps, who, tm, tx⟩ = P := ⟨_, rfl⟩
  rw [hP] at HOK ⊢
  have H32 := Lib.hid (show ∀ x ∈ ps, x.length = 32 from hp32)
  have hcc : ps.length ≤ c := hc
  have hl63 : ps.length ≤ 9223372036854775807 := HC.out.2.1
  obtain ⟨N, hN⟩ : ∃ N, ps.length = N := ⟨_, rfl⟩
  have HN := Lib.hid hN
  rw [hN] at HCE HW1 HI hcc hl63 ⊢
  have c1 : w1.cell? ⟨w.heap.size, 32, none⟩ = some (.slice A N c) := HCE.out 0
  clear hw1 hT hv ho hP hcell hp32 hC hc hN hV
  by_cases h8 : 8 < N
  · go_enter Tryd.func114, Tryd.ntmps114
    go_upto_region 1 with fail
    change Code.wp _ _ _ _ (w.alloc (.cells (comC d (.slice A N c) who tm tx).toArray 116))
    rw [HW1.out]
    go_wp2_with fail
    go_ret
    exact ⟨35, rfl, ⟨fun h => absurd h (by decide), fun h => by have := (HOK.out.1 h).1; have := HN.out; omega⟩, HB1.out⟩
  · go_enter Tryd.func114, Tryd.ntmps114
    go_upto_region 1 with fail
    change Code.wp _ _ _ _ (w.alloc (.cells (comC d (.slice A N c) who tm tx).toArray 116))
    rw [HW1.out]
    go_wp2_with fail
    clear c1
    go_loopw [12] (fun v12 wr => ∃ i : Nat, i ≤ N ∧ v12 = .int .i64 i ∧ Hid (∀ j (h : j < ps.length), j < i → ps[j] ∉ ps.take j) ∧ Below w1.heap.size w1 wr) (fun v12 _ => N - (RowKit.intOf v12).toNat)
    case atStart => exact ⟨0, Nat.zero_le _, rfl, Lib.hid (fun j _ h => absurd h (Nat.not_lt_zero _)), Below.refl _ _⟩
    case round =>
      obtain ⟨i, hi, rfl, hno, hbw⟩ := hrel
      have HBW := Lib.hid hbw
      have c1 : wr.cell? ⟨w.heap.size, 32, none⟩ = some (.slice A N c) := pw_cell_below hbw (HCE.out 0)
      clear hbw
      by_cases hlt : i < N
      · have hlt' : (i : Int) < (N : Int) := by omega
        have hi0 : (0 : Int) ≤ (i : Int) := by omega
        have hil : i < ps.length := by rw [HN.out]; exact hlt
        obtain ⟨ad, rfl, hat⟩ := C_at HC.out i hil
        have HXL := Lib.hid (H32.out _ (List.getElem_mem hil))
        have HPX := Lib.hid (show ps[i] = ps[i] from rfl)
        obtain ⟨x, hx⟩ : ∃ x, ps[i] = x := ⟨_, rfl⟩
        rw [hx] at hat HXL
        have HX := Lib.hid hx
        have HLD := Lib.hid ((hat.below HBW.out).load 33 Tryd.isAgg33 (fun W => by rw [List.length_map, HXL.out]; exact Tryd.sizeOf33 W))
        obtain ⟨w3, hw3⟩ : ∃ w3, wr.alloc (.cells (noughts 32).toArray 33) = w3 := ⟨_, rfl⟩
        have HW3 := Lib.hid hw3
        have HI3 := Lib.hid (show Blk w3 wr.heap.size 33 (noughts 32) from hw3 ▸ Blk.new wr 33 (noughts 32))
        have HB3 := Lib.hid (show Below wr.heap.size wr w3 from hw3 ▸ below_alloc (Below.refl _ _) _)
        have HTH := Lib.hid (HI3.out.there 0 (cl x).toArray.size (by rw [List.size_toArray, List.length_map, HXL.out]; simp))
        have HSZ := Lib.hid (size33' HXL.out)
        have HON := Lib.hid (one33 x)
        have HI4 := Lib.hid (setCell_zero33' w3 _ x HXL.out HI3.out)
        have HB4 := Lib.hid (show Below wr.heap.size wr (w3.setCells wr.heap.size 0 (cl x)) from (But.setCells (k := wr.heap.size) (cl x) 0 w3 (But.of_below HB3.out)).new (Nat.le_refl _))
        clear hw3 hx hat
        go_upto_region 6 with (first | (with_reducible refine wpList_ld rfl 33 (.tmp 15) rfl (ad.add (i * 32)) rfl _ HLD.out ?_) | ((change wpList _ _ _ _ _ (wr.alloc (.cells (noughts 32).toArray 33))); rw [HW3.out]; refine wpList_store_mid rfl 33 (.tmp 4) (.tmp 16) rfl wr.heap.size 0 (cl x).toArray rfl rfl HTH.out HSZ.out HON.out ?_))
        obtain ⟨w4, hw4⟩ : ∃ w4, w3.setCells wr.heap.size 0 (cl x) = w4 := ⟨_, rfl⟩
        rw [hw4] at HI4 HB4 ⊢
        clear hw4 HLD HTH HSZ HON HI3 HB3 HW3 c1
        try simp only [Act.put]
        have HB14 := Lib.hid (HBW.out.trans (HB4.out.mono HBW.out.size))
        have HCW := Lib.hid (fun W (hb : Below w4.heap.size w4 W) => (show Calls Tryd.prog 117 #[.slice (some ad) i c, vId x] W fun e w' => e = .returned (.bool (decide (x ∈ ps.take i))) ∧ Below W.heap.size W w' from by
          have h := containsI_walk (ps.take i) x HXL.out (some ad) c W (C_take (Kd.C_below (by rw [HN.out]; have := HC.out; rwa [HN.out] at this) (HB14.out.trans (hb.mono HB14.out.size))) i) (fun y hy => H32.out y (List.mem_of_mem_take hy))
          rwa [show (ps.take i).length = i from by rw [List.length_take]; omega] at h))
        have r0 : ∀ q : Cls w4, q.at.cell? ⟨w.heap.size, 32, none⟩ = some (.slice (some ad) N c) := fun q => q.cell (pw_cell_below HB14.out (HCE.out 0))
        have HL1 := Lib.hid (fun w' (h : Below w4.heap.size w4 w') => (HI4.out.below h).loads 33 Tryd.isAgg33 (fun W => by rw [List.length_map, HXL.out]; exact Tryd.sizeOf33 W))
        obtain ⟨R, hR⟩ : ∃ R, decide (x ∈ ps.take i) = R := ⟨_, rfl⟩
        have HR := Lib.hid hR
        rw [hR] at HCW
        clear hR
        refine wp_region_cls (by kernel_rfl) (by kernel_rfl) ?_
        repeat (first | go_big_quiet_skip | (go_big_quiet_want; refine quiet_ld 33 (.tmp 4) rfl ⟨wr.heap.size, 0, none⟩ rfl (vId x) HL1.out ?_; (try simp only [Act.put, List.setIfInBounds_toArray, List.set_cons_zero, List.set_cons_succ]); go_big_quiet_on) | go_big_quiet_step (refine cls_call (HCW.out _ (Cls.below _))))
        refine wpQuiet_nil ?_
        rintro wy ⟨q, rfl⟩
        have HB5 := Lib.hid (HB14.out.trans (q.below.mono HB14.out.size))
        obtain ⟨w5, hw5⟩ : ∃ w5, q.at = w5 := ⟨_, rfl⟩
        rw [hw5] at HB5 ⊢
        clear hw5 q r0 HL1 HCW
        cases R with
        | true =>
          go_wp2_with fail
          go_ret
          exact ⟨36, rfl, ⟨fun h => absurd h (by decide), fun h => absurd (by have h2 := HR.out; rw [decide_eq_true_eq] at h2; exact h2) (by rw [← HX.out]; exact (HOK.out.1 h).2.1 i hil)⟩, HB1.out.trans (HB5.out.mono HB1.out.size)⟩
        | false =>
          go_wp2_with fail
          go_roundw
          case rel => exact ⟨i + 1, by omega, by go_num, Lib.hid (fun j h hj => by
            by_cases e : j = i
            · subst e
              rw [HX.out]
              exact of_decide_eq_false HR.out
            · exact hno.out j h (by omega)), HB5.out⟩
          all_goals (simp only [RowKit.intOf]; omega)
      · obtain rfl : i = N := by omega
        have c3 : wr.cell? ⟨w.heap.size, 33, none⟩ = some (sv who) := pw_cell_below HBW.out (HCE.out 1)
        have c4 : wr.cell? ⟨w.heap.size, 34, none⟩ = some (.int .u64 tm) := pw_cell_below HBW.out (HCE.out 2)
        have c5 : wr.cell? ⟨w.heap.size, 35, none⟩ = some (sv tx) := pw_cell_below HBW.out (HCE.out 3)
        have HWW := Lib.hid (HWR.out wr HBW.out)
        cases ho : writtenB tb (strOfNums who) tm (strOfNums tx) with
        | false =>
          rw [ho] at HWW HOK
          clear ho
          go_wp2_with fail
          refine HWW.out.mono ?_
          rintro e w3 ⟨rfl, hb⟩
          have HB3 := Lib.hid (HB1.out.trans ((HBW.out.trans (hb.mono HBW.out.size)).mono HB1.out.size))
          clear hb
          go_wp2_with fail
          go_ret
          exact ⟨36, rfl, ⟨fun h => absurd h (by decide), fun h => by have := (HOK.out.1 h).2.2; cases this⟩, HB3.out⟩
        | true =>
          rw [ho] at HWW HOK
          clear ho
          go_wp2_with fail
          refine HWW.out.mono ?_
          rintro e w3 ⟨rfl, hb⟩
          have HB3 := Lib.hid (HB1.out.trans ((HBW.out.trans (hb.mono HBW.out.size)).mono HB1.out.size))
          clear hb
          go_wp2_with fail
          go_ret
          exact ⟨0, rfl, ⟨fun _ => HOK.out.2 ⟨by rw [HN.out]; omega, fun j h => hno.out j h (by rw [← HN.out]; exact h), by first | rfl | trivial⟩, fun _ => rfl⟩, HB3.out⟩
end Go.Proofs.YtfbkkcigkpffiaaDoor.St

namespace Go.Proofs.YtfbkkcigkpffiaaDoor.St
open Go Go.Lib Go.RowKit Go.ChangeMaps Go.Proofs.YtfbkkcigkpffiaaDoorW.PrintWords Go.Proofs.YtfbkkcigkpffiaaDoorW.PrintLast Go.Proofs.YtfbkkcigkpffiaaDoorW.PrintMore Go.Proofs.YtfbkkcigkpffiaaDoor.PStoreMany
set_option linter.unusedVariables false
set_option linter.unusedSimpArgs false
theorem geq_string (t : TypeId) (a b : ByteArray) : binOp .geq t (.string a) (.string b) = pure (.bool (!Op.bytesLess a.toList b.toList)) := by simp [binOp, Op.stringOp]
def lessN (x y : Ent) : Bool := Op.bytesLess (strOfNums x.nm).toList (strOfNums y.nm).toList
/-- A tree that may be. -/
def TreeOk (tb : Tb) (es : List Ent) : Prop := es.length ≤ 1024 ∧ (∀ j (h : j < es.length), 1 ≤ es[j].md ∧ es[j].md ≤ 4) ∧ (∀ j (h : j < es.length), nameB tb (strOfNums es[j].nm) = true) ∧ (∀ j (h : j + 1 < es.length), lessN es[j] es[j + 1] = true)
theorem CE_at {w : World} {A : Option Addr} {L : List Ent} (h : Kd.C kE w A L.length L) (i : Nat) (hi : i < L.length) : ∃ ad, A = some ad ∧ CellsAt w (ad.add (i * 34)) (entC L[i]) ∧ L[i].id.length = 32 := by
  obtain ⟨ad, hA, hcell⟩ := h.2.2 (by omega)
  obtain ⟨cs, _, hk, hc⟩ := hcell i _ (List.getElem?_eq_getElem hi)
  refine ⟨ad, hA, fun j v hj => ?_, hk.1⟩
  have := hc j v (by rw [hk.2]; exact hj)
  rw [Addr.add_add]
  exact this
theorem size135 : (Tryd.prog.info? 135).map (·.size) = some 34 := by kernel_rfl
theorem zeroE135 : (entC ⟨0, [], zid⟩).length = 34 := entC_len (by decide)
theorem entC_put {w : World} {r : Nat} {x : Ent} (hx : x.id.length = 32) (h : Blk w r 135 (entC ⟨0, [], zid⟩)) : Blk (w.setCells r 0 (entC x)) r 135 (entC x) := by
  have h9 := Blk.setCells (entC x) 0 w _ h
  rwa [sets_all _ _ (by rw [entC_len hx, zeroE135])] at h9
set_option maxRecDepth 100000 in
set_option maxHeartbeats 8000000 in
theorem treecheck_walk (tb : Tb) (es : List Ent) (A : Option Addr) (c : Nat) (hnm : ∀ x ∈ es, x.nm.length ≤ 1000000000) (w : World) (hT : U8T tb w) (hC : Kd.C kE w A es.length es) :
    Calls Tryd.prog 105 #[.slice A es.length c] w fun e w' => ∃ x : Int, e = .returned (.int .i64 x) ∧ (x = 0 ↔ TreeOk tb es) ∧ Below w.heap.size w w' := by
  have HT := Lib.hid hT
  have HC := Lib.hid hC
  have HNM := Lib.hid hnm
  have HOK := Lib.hid (show TreeOk tb es ↔ (es.length ≤ 1024 ∧ (∀ j (h : j < es.length), 1 ≤ es[j].md ∧ es[j].md ≤ 4) ∧ (∀ j (h : j < es.length), nameB tb (strOfNums es[j].nm) = true) ∧ (∀ j (h : j + 1 < es.length), lessN es[j] es[j + 1] = true)) from Iff.rfl)
  obtain ⟨P, hP⟩ : ∃ P, TreeOk tb es = P := ⟨_, rfl⟩
  rw [hP] at HOK ⊢
  have hl63 : es.length ≤ 9223372036854775807 := hC.2.1
  obtain ⟨N, hN⟩ : ∃ N, es.length = N := ⟨_, rfl⟩
  have HN := Lib.hid hN
  rw [hN] at hl63 ⊢
  clear hT hC hnm hP hN
  by_cases h8 : 1024 < N
  · have h8' : (1024 : Int) < (N : Int) := by omega
    go_enter Tryd.func105, Tryd.ntmps105
    go_wp2_with fail
    go_ret
    exact ⟨35, rfl, ⟨fun h => absurd h (by decide), fun h => by have := (HOK.out.1 h).1; have := HN.out; omega⟩, Below.refl _ _⟩
  · go_enter Tryd.func105, Tryd.ntmps105
    go_wp2_with fail
    go_loopw [13] (fun v13 wr => ∃ i : Nat, i ≤ N ∧ v13 = .int .i64 i ∧ Hid (∀ j (h : j < es.length), j < i → 1 ≤ es[j].md ∧ es[j].md ≤ 4) ∧ Below w.heap.size w wr) (fun v13 _ => N - (RowKit.intOf v13).toNat)
    case atStart => exact ⟨0, Nat.zero_le _, rfl, Lib.hid (fun j _ h => absurd h (Nat.not_lt_zero _)), Below.refl _ _⟩
    case round =>
      obtain ⟨i, hi, rfl, hno, hbw⟩ := hrel
      have HBW := Lib.hid hbw
      clear hbw
      by_cases hlt : i < N
      · have hlt' : (i : Int) < (N : Int) := by omega
        have hi0 : (0 : Int) ≤ (i : Int) := by omega
        have hil : i < es.length := by rw [HN.out]; exact hlt
        obtain ⟨ad, rfl, hat, hx32⟩ := CE_at HC.out i hil
        obtain ⟨x, hx⟩ : ∃ x, es[i] = x := ⟨_, rfl⟩
        rw [hx] at hat hx32
        have HX := Lib.hid hx
        have HXL := Lib.hid hx32
        have HLD := Lib.hid ((hat.below HBW.out).load 135 Tryd.isAgg135 (fun W => by rw [entC_len HXL.out]; exact Tryd.sizeOf135 W))
        obtain ⟨w3, hw3⟩ : ∃ w3, wr.alloc (.cells (entC ⟨0, [], zid⟩).toArray 135) = w3 := ⟨_, rfl⟩
        have HW3 := Lib.hid hw3
        have HI3 := Lib.hid (show Blk w3 wr.heap.size 135 (entC ⟨0, [], zid⟩) from hw3 ▸ Blk.new wr 135 _)
        have HB3 := Lib.hid (show Below wr.heap.size wr w3 from hw3 ▸ below_alloc (Below.refl _ _) _)
        have HTH := Lib.hid (HI3.out.there 0 (entC x).toArray.size (by rw [List.size_toArray, entC_len HXL.out, zeroE135]; decide))
        have HSZ := Lib.hid (show (Tryd.prog.info? 135).map (·.size) = some (entC x).toArray.size from by rw [List.size_toArray, entC_len HXL.out]; exact size135)
        have HON := Lib.hid (all_oneCell_toArray (entC_one x))
        have HI4 := Lib.hid (entC_put HXL.out HI3.out)
        have HB4 := Lib.hid (show Below wr.heap.size wr (w3.setCells wr.heap.size 0 (entC x)) from (But.setCells (k := wr.heap.size) (entC x) 0 w3 (But.of_below HB3.out)).new (Nat.le_refl _))
        clear hw3 hx hat hx32
        go_upto_region 6 with (first | (with_reducible refine wpList_ld rfl 135 (.tmp 15) rfl (ad.add (i * 34)) rfl _ HLD.out ?_) | ((change wpList _ _ _ _ _ (wr.alloc (.cells (entC ⟨0, [], zid⟩).toArray 135))); rw [HW3.out]; refine wpList_store_mid rfl 135 (.tmp 4) (.tmp 16) rfl wr.heap.size 0 (entC x).toArray rfl rfl HTH.out HSZ.out HON.out ?_))
        obtain ⟨w4, hw4⟩ : ∃ w4, w3.setCells wr.heap.size 0 (entC x) = w4 := ⟨_, rfl⟩
        rw [hw4] at HI4 HB4 ⊢
        clear hw4 HLD HTH HSZ HON HI3 HB3 HW3
        try simp only [Act.put]
        have HB14 := Lib.hid (HBW.out.trans (HB4.out.mono HBW.out.size))
        have m0 : w4.cell? ⟨wr.heap.size, 0, none⟩ = some (.int .i64 x.md) := HI4.out.cell 0
        obtain ⟨md, hmd⟩ : ∃ md, x.md = md := ⟨_, rfl⟩
        have HMD := Lib.hid hmd
        rw [hmd] at m0
        clear hmd
        by_cases h1 : md < 1
        · go_wp2_with fail
          go_ret
          exact ⟨34, rfl, ⟨fun h => absurd h (by decide), fun h => by have := (HOK.out.1 h).2.1 i hil; rw [HX.out, HMD.out] at this; omega⟩, HB14.out⟩
        · by_cases h3 : 4 < md
          · go_wp2_with fail
            go_ret
            exact ⟨34, rfl, ⟨fun h => absurd h (by decide), fun h => by have := (HOK.out.1 h).2.1 i hil; rw [HX.out, HMD.out] at this; omega⟩, HB14.out⟩
          · go_wp2_with fail
            go_roundw
            case rel => exact ⟨i + 1, by omega, by go_num, Lib.hid (fun j h hj => by
              by_cases e : j = i
              · subst e
                rw [HX.out, HMD.out]
                exact ⟨by omega, by omega⟩
              · exact hno.out j h (by omega)), HB14.out⟩
            all_goals (simp only [RowKit.intOf]; omega)
      · obtain rfl : i = N := by omega
        have HM := Lib.hid (show ∀ j (h : j < es.length), 1 ≤ es[j].md ∧ es[j].md ≤ 4 from fun j h => hno.out j h (by rw [← HN.out]; exact h))
        obtain ⟨wz, rfl⟩ : ∃ wz, wz = wr := ⟨_, rfl⟩
        have HBZ := HBW
        clear hno HBW hlt hi
        go_wp2_with fail
        go_loopw [28] (fun v28 wr => ∃ j : Nat, j ≤ i ∧ v28 = .int .i64 j ∧ Hid (∀ q (h : q < es.length), q < j → nameB tb (strOfNums es[q].nm) = true) ∧ Below w.heap.size w wr) (fun v28 _ => i - (RowKit.intOf v28).toNat)
        case atStart => exact ⟨0, Nat.zero_le _, rfl, Lib.hid (fun j _ h => absurd h (Nat.not_lt_zero _)), HBZ.out⟩
        case round =>
          obtain ⟨j, hj, rfl, hno, hbw⟩ := hrel
          have HBW := Lib.hid hbw
          clear hbw
          by_cases hlt : j < i
          · have hlt' : (j : Int) < (i : Int) := by omega
            have hi0 : (0 : Int) ≤ (j : Int) := by omega
            have hil : j < es.length := by rw [HN.out]; exact hlt
            obtain ⟨ad, rfl, hat, hx32⟩ := CE_at HC.out j hil
            have HNL := Lib.hid (HNM.out _ (List.getElem_mem hil))
            obtain ⟨x, hx⟩ : ∃ x, es[j] = x := ⟨_, rfl⟩
            rw [hx] at hat hx32 HNL
            have HX := Lib.hid hx
            have HXL := Lib.hid hx32
            have HLD := Lib.hid ((hat.below HBW.out).load 135 Tryd.isAgg135 (fun W => by rw [entC_len HXL.out]; exact Tryd.sizeOf135 W))
            obtain ⟨w3, hw3⟩ : ∃ w3, wr.alloc (.cells (entC ⟨0, [], zid⟩).toArray 135) = w3 := ⟨_, rfl⟩
            have HW3 := Lib.hid hw3
            have HI3 := Lib.hid (show Blk w3 wr.heap.size 135 (entC ⟨0, [], zid⟩) from hw3 ▸ Blk.new wr 135 _)
            have HB3 := Lib.hid (show Below wr.heap.size wr w3 from hw3 ▸ below_alloc (Below.refl _ _) _)
            have HTH := Lib.hid (HI3.out.there 0 (entC x).toArray.size (by rw [List.size_toArray, entC_len HXL.out, zeroE135]; decide))
            have HSZ := Lib.hid (show (Tryd.prog.info? 135).map (·.size) = some (entC x).toArray.size from by rw [List.size_toArray, entC_len HXL.out]; exact size135)
            have HON := Lib.hid (all_oneCell_toArray (entC_one x))
            have HI4 := Lib.hid (entC_put HXL.out HI3.out)
            have HB4 := Lib.hid (show Below wr.heap.size wr (w3.setCells wr.heap.size 0 (entC x)) from (But.setCells (k := wr.heap.size) (entC x) 0 w3 (But.of_below HB3.out)).new (Nat.le_refl _))
            clear hw3 hx hat hx32
            go_upto_region 12 with (first | (with_reducible refine wpList_ld rfl 135 (.tmp 30) rfl (ad.add (j * 34)) rfl _ HLD.out ?_) | ((change wpList _ _ _ _ _ (wr.alloc (.cells (entC ⟨0, [], zid⟩).toArray 135))); rw [HW3.out]; refine wpList_store_mid rfl 135 (.tmp 6) (.tmp 31) rfl wr.heap.size 0 (entC x).toArray rfl rfl HTH.out HSZ.out HON.out ?_))
            obtain ⟨w4, hw4⟩ : ∃ w4, w3.setCells wr.heap.size 0 (entC x) = w4 := ⟨_, rfl⟩
            rw [hw4] at HI4 HB4 ⊢
            clear hw4 HLD HTH HSZ HON HI3 HB3 HW3
            try simp only [Act.put]
            have HB14 := Lib.hid (HBW.out.trans (HB4.out.mono HBW.out.size))
            have m1 : w4.cell? ⟨wr.heap.size, 1, none⟩ = some (sv x.nm) := HI4.out.cell 1
            have HNW := Lib.hid (name_walk tb (strOfNums x.nm) w4 (by rw [strOfNums_size]; exact Nat.le_trans HNL.out (by decide)) (HT.out.below HB14.out))
            cases hn : nameB tb (strOfNums x.nm) with
            | false =>
              rw [hn] at HNW
              have HNF := Lib.hid hn
              clear hn
              go_wp2_with fail
              refine HNW.out.mono ?_
              rintro e w5 ⟨rfl, hb⟩
              have HB5 := Lib.hid (HB14.out.trans (hb.mono HB14.out.size))
              clear hb
              go_wp2_with fail
              go_ret
              exact ⟨32, rfl, ⟨fun h => absurd h (by decide), fun h => by have := (HOK.out.1 h).2.2.1 j hil; rw [HX.out, HNF.out] at this; cases this⟩, HB5.out⟩
            | true =>
              rw [hn] at HNW
              have HNF := Lib.hid hn
              clear hn
              go_wp2_with fail
              refine HNW.out.mono ?_
              rintro e w5 ⟨rfl, hb⟩
              have HB5 := Lib.hid (HB14.out.trans (hb.mono HB14.out.size))
              clear hb
              go_wp2_with fail
              go_roundw
              case rel => exact ⟨j + 1, by omega, by go_num, Lib.hid (fun q h hq => by
                by_cases e : q = j
                · subst e
                  rw [HX.out]
                  exact HNF.out
                · exact hno.out q h (by omega)), HB5.out⟩
              all_goals (simp only [RowKit.intOf]; omega)
          · obtain rfl : j = i := by omega
            have HNA := Lib.hid (show ∀ q (h : q < es.length), nameB tb (strOfNums es[q].nm) = true from fun q h => hno.out q h (by rw [← HN.out]; exact h))
            obtain ⟨wy, rfl⟩ : ∃ wy, wy = wr := ⟨_, rfl⟩
            have HBY := HBW
            clear hno HBW hlt hj
            go_wp2_with fail
            go_loopw [7] (fun v7 wr => ∃ q : Nat, 1 ≤ q ∧ (q ≤ j ∨ q = 1) ∧ v7 = .int .i64 q ∧ Hid (∀ p (h : p + 1 < es.length), p + 1 < q → lessN es[p] es[p + 1] = true) ∧ Below w.heap.size w wr) (fun v7 _ => j - (RowKit.intOf v7).toNat)
            case atStart => exact ⟨1, Nat.le_refl _, .inr rfl, rfl, Lib.hid (fun p _ h => absurd h (by omega)), HBY.out⟩
            case round =>
              obtain ⟨q, hq1, hq, rfl, hno, hbw⟩ := hrel
              have HBW := Lib.hid hbw
              clear hbw
              by_cases hlt : q < j
              · have hlt' : (q : Int) < (j : Int) := by omega
                obtain ⟨p, rfl⟩ : ∃ p, q = p + 1 := ⟨q - 1, by omega⟩
                have hil : p + 1 < es.length := by rw [HN.out]; exact hlt
                have hil0 : p < es.length := by omega
                obtain ⟨ad, rfl, hat, hx32⟩ := CE_at HC.out (p + 1) hil
                obtain ⟨ad', hae, hat', hy32⟩ := CE_at HC.out p hil0
                obtain rfl : ad = ad' := Option.some.inj hae
                obtain ⟨x, hx⟩ : ∃ x, es[p + 1] = x := ⟨_, rfl⟩
                obtain ⟨y, hy⟩ : ∃ y, es[p] = y := ⟨_, rfl⟩
                rw [hx] at hat
                rw [hy] at hat'
                have HX := Lib.hid hx
                have HY := Lib.hid hy
                have hb0 := (hat'.below HBW.out) 1 (sv y.nm) rfl
                have hb1 := (hat.below HBW.out) 1 (sv x.nm) rfl
                have hw : IntKind.i64.wrap (((p + 1 : Nat) : Int) - 1) = (p : Int) := by rw [IntWalk.i64_in _ (by omega)]; omega
                have qp0 : (0 : Int) ≤ (p : Int) := by omega
                have qp1 : (p : Int) < (j : Int) := by omega
                have hge : ∀ w, (binOp .geq 9 (sv y.nm) (sv x.nm)).run Tryd.prog w = .ok (.bool (!lessN y x)) w := fun w => by rw [geq_string]; rfl
                have g0 : ∀ q : Cls wr, q.at.cell? ⟨(ad.add (p * 34)).block, (ad.add (p * 34)).off + 1, none⟩ = some (sv y.nm) := fun q => q.cell hb0
                have g1 : ∀ q : Cls wr, q.at.cell? ⟨(ad.add ((p + 1) * 34)).block, (ad.add ((p + 1) * 34)).off + 1, none⟩ = some (sv x.nm) := fun q => q.cell hb1
                clear hx hy hat hat' hx32 hy32 hae hb0 hb1
                go_upto_region 18 with fail
                refine wp_region_cls (by kernel_rfl) (by kernel_rfl) ?_
                repeat (first | go_big_quiet_skip | go_big_quiet_step (fail))
                refine wpQuiet_nil ?_
                rintro wy ⟨u, rfl⟩
                have HB5 := Lib.hid (HBW.out.trans (u.below.mono HBW.out.size))
                obtain ⟨w5, hw5⟩ : ∃ w5, u.at = w5 := ⟨_, rfl⟩
                rw [hw5] at HB5 ⊢
                clear hw5 u g0 g1 hge hw
                cases hle : lessN y x with
                | false =>
                  have HLE := Lib.hid hle
                  clear hle
                  go_wp2_with fail
                  go_ret
                  exact ⟨33, rfl, ⟨fun h => absurd h (by decide), fun h => by have := (HOK.out.1 h).2.2.2 p hil; rw [HX.out, HY.out, HLE.out] at this; cases this⟩, HB5.out⟩
                | true =>
                  have HLE := Lib.hid hle
                  clear hle
                  go_wp2_with fail
                  go_roundw
                  case rel => exact ⟨p + 1 + 1, by omega, by omega, by go_num, Lib.hid (fun a h ha => by
                    by_cases e : a = p
                    · subst e
                      rw [HX.out, HY.out]
                      exact HLE.out
                    · exact hno.out a h (by omega)), HB5.out⟩
                  all_goals (simp only [RowKit.intOf]; omega)
              · have hlt' : ¬ (q : Int) < (j : Int) := by omega
                have HLA := Lib.hid (show ∀ p (h : p + 1 < es.length), lessN es[p] es[p + 1] = true from fun p h => hno.out p h (by have := HN.out; omega))
                go_wp2_with fail
                go_ret
                exact ⟨0, rfl, ⟨fun _ => HOK.out.2 ⟨by rw [HN.out]; omega, HM.out, HNA.out, HLA.out⟩, fun _ => rfl⟩, HBW.out⟩
end Go.Proofs.YtfbkkcigkpffiaaDoor.St
