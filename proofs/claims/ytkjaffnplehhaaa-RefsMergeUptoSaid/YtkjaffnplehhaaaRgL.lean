/- The walk of the law RefsMerge. -/
import Derived.Test.YtkjaffnplehhaaaRgK
namespace Go.Proofs.Ytkjaffnplehhaaa.Rg
open Go Go.Lib Go.RowKit Go.ChangeMaps Go.Proofs.YtkjaffnplehhaaaW.PrintWords Go.Proofs.YtkjaffnplehhaaaW.PrintLast Go.Proofs.YtkjaffnplehhaaaW.PrintMore Go.Proofs.Ytkjaffnplehhaaa.PRefsMerge Go.Sort
set_option linter.unusedVariables false
set_option linter.unusedSimpArgs false
/-- The three lists that came in, and the box that holds them. -/
structure Came (h0 : Nat) (sA sB sC : Value) (w : World) : Prop where
  c0 : w.cell? ⟨h0, 0, none⟩ = some sA
  c1 : w.cell? ⟨h0, 1, none⟩ = some sB
  c2 : w.cell? ⟨h0, 2, none⟩ = some sC
theorem Came.below {h0 : Nat} {sA sB sC : Value} {w w' : World} (h : Came h0 sA sB sC w) (hb : Below w.heap.size w w') : Came h0 sA sB sC w' := ⟨pw_cell_below hb h.c0, pw_cell_below hb h.c1, pw_cell_below hb h.c2⟩
theorem below_drewN1 (w : World) : Below w.heap.size w (w.drewN 1) := pw_below_drewN (Below.refl _ _) 1
theorem geq_string (t : TypeId) (a b : ByteArray) : binOp .geq t (.string a) (.string b) = pure (.bool (!Op.bytesLess a.toList b.toList)) := by simp [binOp, Op.stringOp]
abbrev one1 : Stp := ⟨[97], zeroId, 1⟩
abbrev one2 : Stp := ⟨[97], zeroId, 2⟩
theorem StAt.C {w : World} {g : Nat} {x : Stp} (h : StAt w ⟨g, 0, none⟩ x) : Kd.C kSt w (some ⟨g, 0, none⟩) [x].length [x] :=
  ⟨rfl, by rw [List.length_singleton]; decide, fun _ => ⟨_, rfl, fun j p hj => by
    have hj0 : j = 0 := by
      have := (List.getElem?_eq_some_iff.1 hj).1
      simpa using this
    subst hj0
    obtain rfl : x = p := by simpa using hj
    exact ⟨encSt x, encSt_len h.1, ⟨h.1, rfl⟩, fun i u hu => by rw [Nat.zero_mul, Nat.zero_add]; exact h.2 i u hu⟩⟩⟩
theorem one5 (w : World) : Calls Try.prog 5 #[.slice (some ⟨w.heap.size, 0, none⟩) 1 1, .slice (some ⟨w.heap.size + 1, 0, none⟩) 1 1] ((w.alloc (.cells (encSt one1).toArray 32)).alloc (.cells (encSt one2).toArray 32)) fun e w' =>
    ∃ g k, e = .returned (.slice (some ⟨g, 0, none⟩) 1 k) ∧ w'.cell? ⟨g, 33, none⟩ = some (.int .u64 2) ∧ Below w.heap.size w w' := by
  obtain ⟨w1, hw1⟩ : ∃ w1, w.alloc (Obj.cells (encSt one1).toArray 32) = w1 := ⟨_, rfl⟩
  obtain ⟨w2, hw2⟩ : ∃ w2, w1.alloc (Obj.cells (encSt one2).toArray 32) = w2 := ⟨_, rfl⟩
  have hs1 : w1.heap.size = w.heap.size + 1 := by rw [← hw1, alloc_eq_grow]; simp [grow]
  have X1 : StAt w1 ⟨w.heap.size, 0, none⟩ one1 := hw1 ▸ StAt.new ⟨by decide, by decide⟩ w 32
  have Y2 : StAt w2 ⟨w1.heap.size, 0, none⟩ one2 := hw2 ▸ StAt.new ⟨by decide, by decide⟩ w1 32
  have hb1 : Below w.heap.size w w1 := hw1 ▸ below_alloc (Below.refl _ _) _
  have hb12 : Below w1.heap.size w1 w2 := hw2 ▸ below_alloc (Below.refl _ _) _
  rw [hw1, hw2, ← hs1]
  have h := merge5 [one1] [one2] _ _ 1 1 w2 (X1.below hb12).C Y2.C (by decide)
  rw [mg_one] at h
  exact h.mono (fun e w' ⟨g, k, h1, h2, _, h4, _, h6⟩ => ⟨g, k, h1, by
    have h7 := (h2.st h4 0 (by decide)).seq
    simpa using h7, (hb1.trans (hb12.mono (by omega))).trans (h6.mono (by have := hb12.size; omega))⟩)
set_option maxRecDepth 100000 in
set_option maxHeartbeats 4000000 in
theorem law_walk (la lb lc : List Stp) (A B C : Option Addr) (ca cb cc : Nat) (w : World) (hA : Kd.C kSt w A la.length la) (hB : Kd.C kSt w B lb.length lb) (hC : Kd.C kSt w C lc.length lc)
    (hcb : lb.length ≤ cb) (hl : la.length + lb.length + lc.length ≤ 100000000) :
    Calls Try.prog 3 #[.agg #[.slice A la.length ca, .slice B lb.length cb, .slice C lc.length cc]] w fun e w' => e = .returned (.bool true) ∧ Below w.heap.size w w' := by
  obtain ⟨wB, hwB⟩ : ∃ wB, w.alloc (.cells #[.slice A la.length ca, .slice B lb.length cb, .slice C lc.length cc] 24) = wB := ⟨_, rfl⟩
  have HB0 := Lib.hid (show Below w.heap.size w wB from hwB ▸ below_alloc (Below.refl _ _) _)
  have HCM := Lib.hid (show Came w.heap.size (.slice A la.length ca) (.slice B lb.length cb) (.slice C lc.length cc) wB from by
    have h9 : wB.heap[w.heap.size]? = some (.cells #[.slice A la.length ca, .slice B lb.length cb, .slice C lc.length cc] 24 (0, 0)) := hwB ▸ (MapKept.heap_alloc w _).1
    exact ⟨by rw [cell_of_row _ _ _ _ _ _ h9]; rfl, by rw [cell_of_row _ _ _ _ _ _ h9]; rfl, by rw [cell_of_row _ _ _ _ _ _ h9]; rfl⟩)
  have HA := Lib.hid (Kd.C_below hA HB0.out)
  have HB := Lib.hid (Kd.C_below hB HB0.out)
  have HC := Lib.hid (Kd.C_below hC HB0.out)
  obtain ⟨h0, hh0⟩ : ∃ h0, w.heap.size = h0 := ⟨_, rfl⟩
  rw [hh0] at HCM
  have HH := Lib.hid hh0
  clear hA hB hC
  obtain ⟨na, hna⟩ : ∃ na, la.length = na := ⟨_, rfl⟩
  obtain ⟨nb, hnb⟩ : ∃ nb, lb.length = nb := ⟨_, rfl⟩
  obtain ⟨nc, hnc⟩ : ∃ nc, lc.length = nc := ⟨_, rfl⟩
  have HNA := Lib.hid hna
  have HNB := Lib.hid hnb
  have HNC := Lib.hid hnc
  have HS4A := Lib.hid (fun W (hb : Below wB.heap.size wB W) => stamps4 la A ca W (Kd.C_below HA.out hb) (by omega))
  have HS4B := Lib.hid (fun W (hb : Below wB.heap.size wB W) => stamps4 lb B cb W (Kd.C_below HB.out hb) (by omega))
  rw [hna] at HS4A HCM hl hwB ⊢
  rw [hnb] at HS4B HCM hl hwB hcb ⊢
  rw [hnc] at HCM hl hwB ⊢
  clear hna hnb hnc
  have HS := Lib.hid (fun W (hb : Below wB.heap.size wB W) => (⟨(HCM.out.below hb).c0, (HCM.out.below hb).c1, hb⟩ : W.cell? ⟨h0, 0, none⟩ = some (.slice A na ca) ∧ W.cell? ⟨h0, 1, none⟩ = some (.slice B nb cb) ∧ Below wB.heap.size wB W))
  have HKP := Lib.hid (fun W W' (hs : W.cell? ⟨h0, 0, none⟩ = some (.slice A na ca) ∧ W.cell? ⟨h0, 1, none⟩ = some (.slice B nb cb) ∧ Below wB.heap.size wB W) (hb : Below W.heap.size W W') => HS.out W' (hs.2.2.trans (hb.mono hs.2.2.size)))
  have HWB := Lib.hid hwB
  clear hwB
  go_enter Try.func3, Try.ntmps3
  go_upto_region 1 with (fail)
  rw [HWB.out]
  clear hh0
  go_cut [3, 4] from 16 to 21 (fun v3 v4 wx => ∃ ga ka gb kb, v3 = .slice (some ⟨ga, 0, none⟩) na ka ∧ v4 = .slice (some ⟨gb, 0, none⟩) nb kb ∧ Marked wx ga ka la ∧ Marked wx gb kb lb ∧ Below wB.heap.size wB wx)
  case first =>
    go_region_held3 (fun w' => w'.cell? ⟨h0, 0, none⟩ = some (.slice A na ca) ∧ w'.cell? ⟨h0, 1, none⟩ = some (.slice B nb cb) ∧ Below wB.heap.size wB w')
      (first | assumption | exact HS.out _ (below_drewN1 _) | exact HKP.out _ _ (by assumption) (by assumption))
      (first | (go_at_call 4; (with_reducible refine (HS4A.out _ (And.right (And.right (by assumption)))).mono ?_); rintro e wa ⟨ga, ka, rfl, hma, _, hba⟩) | (go_at_call 4; (with_reducible refine (HS4B.out _ (And.right (And.right (by assumption)))).mono ?_); rintro e wb ⟨gb, kb, rfl, hmb, _, hbb⟩))
    go_wp2_with fail
    go_meet
    case rel => exact ⟨ga, ka, gb, kb, rfl, rfl, hma.below hbb, hmb, ((below_drewN1 wB).trans hba).trans (hbb.mono hba.size)⟩
  case rest =>
    obtain ⟨ga, ka, gb, kb, rfl, rfl, hma, hmb, hb⟩ := hcut
    obtain ⟨w1, rfl⟩ : ∃ w1, w1 = wc := ⟨_, rfl⟩
    have HMA := Lib.hid hma
    have HMB := Lib.hid hmb
    have HB1 := Lib.hid hb
    have HCM1 := Lib.hid (HCM.out.below hb)
    clear hma hmb hb HS HKP HS4A HS4B
    have hM5 := merge5 la lb (some ⟨ga, 0, none⟩) (some ⟨gb, 0, none⟩) ka kb w1 HMA.out.2.1 HMB.out.2.1 (by rw [HNA.out, HNB.out]; omega)
    have hml := mg_len (la ++ lb)
    rw [List.length_append, HNA.out, HNB.out] at hml
    obtain ⟨M, hM⟩ : ∃ M, mg (la ++ lb) = M := ⟨_, rfl⟩
    obtain ⟨nm, hnm⟩ : ∃ nm, M.length = nm := ⟨_, rfl⟩
    rw [HNA.out, HNB.out, hM, hnm] at hM5
    rw [hM, hnm] at hml
    unfold sl at hM5
    have HMG := Lib.hid hM
    have HNM := Lib.hid hnm
    have HM5 := Lib.hid hM5
    clear hM hnm hM5
    go_upto_region 3 with (go_at_call 5; refine HM5.out.mono ?_; rintro e w2 ⟨gm, km, rfl, hr, hc, hok, hg, hb⟩; have HRM := Lib.hid hr; have HCMM := Lib.hid hc; have HOM := Lib.hid hok; have HGM := Lib.hid hg; have HB2 := Lib.hid hb; clear hr hc hok hg hb)
    have HB12 := Lib.hid (HB1.out.trans (HB2.out.mono HB1.out.size))
    have HMA2 := Lib.hid (HMA.out.below HB2.out)
    have HMB2 := Lib.hid (HMB.out.below HB2.out)
    have HCM2 := Lib.hid (HCM1.out.below HB2.out)
    have HA2 := Lib.hid (Kd.C_below HA.out HB12.out)
    have HBB2 := Lib.hid (Kd.C_below HB.out HB12.out)
    have hE1 := eq6 la (some ⟨ga, 0, none⟩) A ka ca w2 HMA2.out.2.1 HA2.out
    have hE2 := fun W (hb : Below w2.heap.size w2 W) => eq6 lb (some ⟨gb, 0, none⟩) B kb cb W (HMB2.out.below hb).2.1 (Kd.C_below HBB2.out hb)
    rw [HNA.out] at hE1
    rw [HNB.out] at hE2
    have HE1 := Lib.hid hE1
    have HE2 := Lib.hid hE2
    clear hE1 hE2 HM5 HB2 HMA HMB HCM1 HB1
    have c0 := HCM2.out.c0
    go_upto_region 5 with (first | (go_at_call 6; (with_reducible refine HE1.out.mono ?_); rintro e w3 ⟨rfl, hb3⟩; have HB3 := Lib.hid hb3; have c1 := (HCM2.out.below hb3).c1; clear hb3 c0) | (go_at_call 6; (with_reducible refine (HE2.out _ HB3.out).mono ?_); rintro e w4 ⟨rfl, hb4⟩; have HB4 := Lib.hid hb4; clear hb4 c1))
    have HB24 := Lib.hid (HB3.out.trans (HB4.out.mono HB3.out.size))
    have HMA4 := Lib.hid (HMA2.out.below HB24.out)
    have HMB4 := Lib.hid (HMB2.out.below HB24.out)
    obtain ⟨i32, hi32, _, _, _⟩ := info_parts info32
    have qka : (na : Int) + 1 ≤ (ka : Int) := by have := HMA4.out.1; rw [HNA.out] at this; omega
    have qkb : (nb : Int) + 1 ≤ (kb : Int) := by have := HMB4.out.1; rw [HNB.out] at this; omega
    have hslA := cut_cap (P := Try.prog) 22 32 .i64 Try.underlying22 hi32 (some ⟨ga, 0, none⟩) na ka ((na : Int) + 1) (by omega) qka
    have hslB := cut_cap (P := Try.prog) 22 32 .i64 Try.underlying22 hi32 (some ⟨gb, 0, none⟩) nb kb ((nb : Int) + 1) (by omega) qkb
    rw [show ((na : Int) + 1).toNat = na + 1 by omega] at hslA
    rw [show ((nb : Int) + 1).toNat = nb + 1 by omega] at hslB
    have hwa : IntKind.i64.wrap ((na : Int) + 1) = (na : Int) + 1 := IntWalk.i64_in _ (by omega)
    have hwb : IntKind.i64.wrap ((nb : Int) + 1) = (nb : Int) + 1 := IntWalk.i64_in _ (by omega)
    clear hi32 HE1 HE2 HMA2 HMB2
    refine wp_region_cls (by kernel_rfl) (by kernel_rfl) ?_
    repeat (first | go_big_quiet_skip | go_big_quiet_step (fail))
    refine wpQuiet_nil ?_
    rintro wy ⟨q, rfl⟩
    have HMA5 := Lib.hid (HMA4.out.below q.below)
    have HMB5 := Lib.hid (HMB4.out.below q.below)
    have HB25 := Lib.hid (HB24.out.trans (q.below.mono HB24.out.size))
    obtain ⟨w5, hw5⟩ : ∃ w5, q.at = w5 := ⟨_, rfl⟩
    rw [hw5] at HMA5 HMB5 HB25 ⊢
    have sA := HMA5.out.2.2.seq
    have sB := HMB5.out.2.2.seq
    simp only [HNA.out, HNB.out] at sA sB
    clear hw5 q hslA hslB hwa hwb HMA4 HMB4 HB3 HB4 HB24
    have qa1 : (na : Int) < ((na + 1 : Nat) : Int) := by omega
    have qb1 : (nb : Int) < ((nb + 1 : Nat) : Int) := by omega
    go_wp2_with fail
    -- LOOP1
    go_loopw [8] (fun v8 wr => ∃ i : Nat, i ≤ nm ∧ v8 = .int .i64 i ∧ Below w5.heap.size w5 wr) (fun v8 _ => nm - (RowKit.intOf v8).toNat)
    case atStart => exact ⟨0, Nat.zero_le _, rfl, Below.refl _ _⟩
    case round =>
      obtain ⟨i, hi, rfl, hb⟩ := hrel
      have HBr := Lib.hid hb
      have HB2r := Lib.hid (HB25.out.trans (hb.mono HB25.out.size))
      clear hb sA sB qa1 qb1
      by_cases hlt : i < nm
      · have hil : i < M.length := by rw [HNM.out]; exact hlt
        have hxs := (HRM.out.below HGM.out HB2r.out).st HOM.out i hil
        have hin : M[i] ∈ la ∨ M[i] ∈ lb := List.mem_append.1 ((HMG.out ▸ mg_is (la ++ lb) : IsMerge (la ++ lb) M).from_ _ (List.getElem_mem hil))
        have HPR := Lib.hid (fun (j : Nat) (hj : i = j + 1) => show ∃ y, StAt wr ⟨gm, j * 34, none⟩ y ∧ y.n < M[i].n from ⟨M[j], (HRM.out.below HGM.out HB2r.out).st HOM.out j (by omega), (List.pairwise_iff_getElem.1 (HMG.out ▸ mg_is (la ++ lb) : IsMerge (la ++ lb) M).srt) j i (by omega) hil (by omega)⟩)
        obtain ⟨x, hx⟩ : ∃ x, M[i] = x := ⟨_, rfl⟩
        rw [hx] at hxs hin HPR
        have HIN := Lib.hid hin
        have HL1 := Lib.hid (fun w' (h : Below wr.heap.size wr w') => (hxs.below h).load)
        have hva := fun W (hb : Below wr.heap.size wr W) => have_walk la A ca x hxs.1 W (Kd.C_below HA2.out (HB2r.out.trans (hb.mono HB2r.out.size)))
        have hvb := fun W (hb : Below wr.heap.size wr W) => have_walk lb B cb x hxs.1 W (Kd.C_below HBB2.out (HB2r.out.trans (hb.mono HB2r.out.size)))
        rw [HNA.out] at hva
        rw [HNB.out] at hvb
        have HVA := Lib.hid hva
        have HVB := Lib.hid hvb
        have qi0 : (0 : Int) ≤ (i : Int) := by omega
        have qi1 : (i : Int) < (nm : Int) := by omega
        have c0 : ∀ q : Cls wr, q.at.cell? ⟨h0, 0, none⟩ = some (.slice A na ca) := fun q => q.cell (HCM2.out.below HB2r.out).c0
        have c1 : ∀ q : Cls wr, q.at.cell? ⟨h0, 1, none⟩ = some (.slice B nb cb) := fun q => q.cell (HCM2.out.below HB2r.out).c1
        have HXS := Lib.hid hxs
        clear hva hvb hin hx hil hxs
        by_cases hi0 : 0 < i
        · obtain ⟨j, hj⟩ : ∃ j, i = j + 1 := ⟨i - 1, by omega⟩
          obtain ⟨y, hys, hyx⟩ := HPR.out j hj
          obtain ⟨b1, hb1⟩ : ∃ b1 : ByteArray, (⟨y.n.toArray⟩ : ByteArray) = b1 := ⟨_, rfl⟩
          obtain ⟨b2, hb2⟩ : ∃ b2 : ByteArray, (⟨x.n.toArray⟩ : ByteArray) = b2 := ⟨_, rfl⟩
          have n1 : ∀ q : Cls wr, q.at.cell? ⟨gm, j * 34, none⟩ = some (.string b1) := fun q => q.cell (hb1 ▸ hys.name)
          have n2 : ∀ q : Cls wr, q.at.cell? ⟨gm, i * 34, none⟩ = some (.string b2) := fun q => q.cell (hb2 ▸ HXS.out.name)
          have hbl : Op.bytesLess b1.toList b2.toList = true := by rw [← hb1, ← hb2, bytesLess_eq]; simpa [ByteArray.toList_eq] using hyx
          have hge : ∀ w, (binOp .geq 9 (.string b1) (.string b2)).run Try.prog w = .ok (.bool false) w := fun w => by rw [geq_string, hbl]; rfl
          have hw : IntKind.i64.wrap ((i : Int) - 1) = (j : Int) := by rw [IntWalk.i64_in _ (by omega)]; omega
          have qj0 : (0 : Int) ≤ (j : Int) := by omega
          have qj1 : (j : Int) < (nm : Int) := by omega
          have qz : (0 : Int) < (i : Int) := by omega
          clear hbl hj hys hyx hb1 hb2 HPR
          by_cases hxa : x ∈ la
          · have HHA := Lib.hid (fun W (hb : Below wr.heap.size wr W) => (HVA.out W hb).mono (fun e w' (h : e = .returned (.bool (decide (x ∈ la))) ∧ Below W.heap.size W w') => (⟨by rw [h.1]; simp [hxa], h.2⟩ : e = .returned (.bool true) ∧ Below W.heap.size W w')))
            have HHB := Lib.hid trivial
            clear hxa
            go_upto_region 11 with (fail)
            refine wp_region_cls (by kernel_rfl) (by kernel_rfl) ?_
            repeat (first | go_big_quiet_skip | (go_big_quiet_want; refine quiet_ld 32 (.tmp 90) rfl ⟨gm, i * 34, none⟩ rfl (vSt x) HL1.out ?_; (try simp only [Act.put, List.setIfInBounds_toArray, List.set_cons_zero, List.set_cons_succ]); go_big_quiet_on) | (go_big_quiet_want; refine quiet_ld 32 (.tmp 99) rfl ⟨gm, i * 34, none⟩ rfl (vSt x) HL1.out ?_; (try simp only [Act.put, List.setIfInBounds_toArray, List.set_cons_zero, List.set_cons_succ]); go_big_quiet_on) | go_big_quiet_step (first | ((with_reducible refine cls_call (HHA.out _ (Cls.below _)))) | ((with_reducible refine cls_call (HHB.out _ (Cls.below _))))))
            refine wpQuiet_nil ?_
            rintro wy ⟨q, rfl⟩
            have HQ := Lib.hid (HBr.out.trans (q.below.mono HBr.out.size))
            clear c0 c1
            go_wp2_with fail
            go_roundw
            case rel => exact ⟨i + 1, by omega, by go_num, HQ.out⟩
            all_goals (simp only [RowKit.intOf]; omega)
          · have hxb : x ∈ lb := HIN.out.resolve_left hxa
            have HHA := Lib.hid (fun W (hb : Below wr.heap.size wr W) => (HVA.out W hb).mono (fun e w' (h : e = .returned (.bool (decide (x ∈ la))) ∧ Below W.heap.size W w') => (⟨by rw [h.1]; simp [hxa], h.2⟩ : e = .returned (.bool false) ∧ Below W.heap.size W w')))
            have HHB := Lib.hid (fun W (hb : Below wr.heap.size wr W) => (HVB.out W hb).mono (fun e w' (h : e = .returned (.bool (decide (x ∈ lb))) ∧ Below W.heap.size W w') => (⟨by rw [h.1]; simp [hxb], h.2⟩ : e = .returned (.bool true) ∧ Below W.heap.size W w')))
            clear hxa hxb
            go_upto_region 11 with (fail)
            refine wp_region_cls (by kernel_rfl) (by kernel_rfl) ?_
            repeat (first | go_big_quiet_skip | (go_big_quiet_want; refine quiet_ld 32 (.tmp 90) rfl ⟨gm, i * 34, none⟩ rfl (vSt x) HL1.out ?_; (try simp only [Act.put, List.setIfInBounds_toArray, List.set_cons_zero, List.set_cons_succ]); go_big_quiet_on) | (go_big_quiet_want; refine quiet_ld 32 (.tmp 99) rfl ⟨gm, i * 34, none⟩ rfl (vSt x) HL1.out ?_; (try simp only [Act.put, List.setIfInBounds_toArray, List.set_cons_zero, List.set_cons_succ]); go_big_quiet_on) | go_big_quiet_step (first | ((with_reducible refine cls_call (HHA.out _ (Cls.below _)))) | ((with_reducible refine cls_call (HHB.out _ (Cls.below _))))))
            refine wpQuiet_nil ?_
            rintro wy ⟨q, rfl⟩
            have HQ := Lib.hid (HBr.out.trans (q.below.mono HBr.out.size))
            clear c0 c1
            go_wp2_with fail
            go_roundw
            case rel => exact ⟨i + 1, by omega, by go_num, HQ.out⟩
            all_goals (simp only [RowKit.intOf]; omega)
        · have qz : ¬ (0 : Int) < (i : Int) := by omega
          clear HPR
          by_cases hxa : x ∈ la
          · have HHA := Lib.hid (fun W (hb : Below wr.heap.size wr W) => (HVA.out W hb).mono (fun e w' (h : e = .returned (.bool (decide (x ∈ la))) ∧ Below W.heap.size W w') => (⟨by rw [h.1]; simp [hxa], h.2⟩ : e = .returned (.bool true) ∧ Below W.heap.size W w')))
            have HHB := Lib.hid trivial
            clear hxa
            go_upto_region 11 with (fail)
            refine wp_region_cls (by kernel_rfl) (by kernel_rfl) ?_
            repeat (first | go_big_quiet_skip | (go_big_quiet_want; refine quiet_ld 32 (.tmp 90) rfl ⟨gm, i * 34, none⟩ rfl (vSt x) HL1.out ?_; (try simp only [Act.put, List.setIfInBounds_toArray, List.set_cons_zero, List.set_cons_succ]); go_big_quiet_on) | (go_big_quiet_want; refine quiet_ld 32 (.tmp 99) rfl ⟨gm, i * 34, none⟩ rfl (vSt x) HL1.out ?_; (try simp only [Act.put, List.setIfInBounds_toArray, List.set_cons_zero, List.set_cons_succ]); go_big_quiet_on) | go_big_quiet_step (first | ((with_reducible refine cls_call (HHA.out _ (Cls.below _)))) | ((with_reducible refine cls_call (HHB.out _ (Cls.below _))))))
            refine wpQuiet_nil ?_
            rintro wy ⟨q, rfl⟩
            have HQ := Lib.hid (HBr.out.trans (q.below.mono HBr.out.size))
            clear c0 c1
            go_wp2_with fail
            go_roundw
            case rel => exact ⟨i + 1, by omega, by go_num, HQ.out⟩
            all_goals (simp only [RowKit.intOf]; omega)
          · have hxb : x ∈ lb := HIN.out.resolve_left hxa
            have HHA := Lib.hid (fun W (hb : Below wr.heap.size wr W) => (HVA.out W hb).mono (fun e w' (h : e = .returned (.bool (decide (x ∈ la))) ∧ Below W.heap.size W w') => (⟨by rw [h.1]; simp [hxa], h.2⟩ : e = .returned (.bool false) ∧ Below W.heap.size W w')))
            have HHB := Lib.hid (fun W (hb : Below wr.heap.size wr W) => (HVB.out W hb).mono (fun e w' (h : e = .returned (.bool (decide (x ∈ lb))) ∧ Below W.heap.size W w') => (⟨by rw [h.1]; simp [hxb], h.2⟩ : e = .returned (.bool true) ∧ Below W.heap.size W w')))
            clear hxa hxb
            go_upto_region 11 with (fail)
            refine wp_region_cls (by kernel_rfl) (by kernel_rfl) ?_
            repeat (first | go_big_quiet_skip | (go_big_quiet_want; refine quiet_ld 32 (.tmp 90) rfl ⟨gm, i * 34, none⟩ rfl (vSt x) HL1.out ?_; (try simp only [Act.put, List.setIfInBounds_toArray, List.set_cons_zero, List.set_cons_succ]); go_big_quiet_on) | (go_big_quiet_want; refine quiet_ld 32 (.tmp 99) rfl ⟨gm, i * 34, none⟩ rfl (vSt x) HL1.out ?_; (try simp only [Act.put, List.setIfInBounds_toArray, List.set_cons_zero, List.set_cons_succ]); go_big_quiet_on) | go_big_quiet_step (first | ((with_reducible refine cls_call (HHA.out _ (Cls.below _)))) | ((with_reducible refine cls_call (HHB.out _ (Cls.below _))))))
            refine wpQuiet_nil ?_
            rintro wy ⟨q, rfl⟩
            have HQ := Lib.hid (HBr.out.trans (q.below.mono HBr.out.size))
            clear c0 c1
            go_wp2_with fail
            go_roundw
            case rel => exact ⟨i + 1, by omega, by go_num, HQ.out⟩
            all_goals (simp only [RowKit.intOf]; omega)
      · obtain rfl : nm = i := by omega
        obtain ⟨w6, rfl⟩ : ∃ w6, w6 = wr := ⟨_, rfl⟩
        have HA6 := Lib.hid (Kd.C_below HA2.out HB2r.out)
        have HB6 := Lib.hid (Kd.C_below HBB2.out HB2r.out)
        have HCM6 := Lib.hid (HCM2.out.below HB2r.out)
        have HB6w := Lib.hid (HB12.out.trans (HB2r.out.mono HB12.out.size))
        have HR6 := Lib.hid (HRM.out.below HGM.out HB2r.out)
        have HG6 := Lib.hid (Nat.lt_of_lt_of_le HGM.out HB2r.out.size)
        have hs4 := fun W (hb : Below w6.heap.size w6 W) => (stamps4 la A ca W (Kd.C_below HA6.out hb) (by rw [HNA.out]; omega)).mono (fun e w' ⟨g, cm, h1, h2, h3, h4⟩ => show ∃ g cm, e = Ending.returned (.slice (some ⟨g, 0, none⟩) la.length cm) ∧ Kd.R kSt 32 w' w6.heap.size (fun k => w6.heap.size ≤ k) (.slice (some ⟨g, 0, none⟩) la.length cm) la ∧ Below w6.heap.size w6 w' ∧ Below W.heap.size W w' from ⟨g, cm, h1, Kd.R_mono (Kd.R_lower h3 hb.size) (fun k hk => Nat.le_trans hb.size hk), hb.trans (h4.mono hb.size), h4⟩)
        rw [HNA.out] at hs4
        have HS4 := Lib.hid hs4
        have HS := Lib.hid (fun W (hb : Below w6.heap.size w6 W) => (⟨(HCM6.out.below hb).c0, (HCM6.out.below hb).c1, hb⟩ : W.cell? ⟨h0, 0, none⟩ = some (.slice A na ca) ∧ W.cell? ⟨h0, 1, none⟩ = some (.slice B nb cb) ∧ Below w6.heap.size w6 W))
        have HKP := Lib.hid (fun W W' (hs : W.cell? ⟨h0, 0, none⟩ = some (.slice A na ca) ∧ W.cell? ⟨h0, 1, none⟩ = some (.slice B nb cb) ∧ Below w6.heap.size w6 W) (hb : Below W.heap.size W W') => HS.out W' (hs.2.2.trans (hb.mono hs.2.2.size)))
        have HB6' := Lib.hid (HNB.out ▸ HB6.out : Kd.C kSt w6 B nb lb)
        clear HA2 HBB2 HCM2 HB2r HB12 HRM HGM hs4 HBr HB25
        obtain ⟨LB, hLB⟩ : ∃ LB, la ++ lb = LB := ⟨_, rfl⟩
        have HLB := Lib.hid hLB
        clear hLB
        go_upto_region 13 with (fail)
        go_cut [9] from 105 to 110 (fun v9 wx => ∃ A9 c9, v9 = .slice A9 LB.length c9 ∧ OutAt wx w6.heap.size A9 c9 LB ∧ Below w6.heap.size w6 wx)
        case first =>
          go_region_held3 (fun w' => w'.cell? ⟨h0, 0, none⟩ = some (.slice A na ca) ∧ w'.cell? ⟨h0, 1, none⟩ = some (.slice B nb cb) ∧ Below w6.heap.size w6 w')
            (first | assumption | exact HS.out _ (below_drewN1 _) | exact HS.out _ (by assumption) | exact HKP.out _ _ (by assumption) (by assumption))
            (first | (go_at_call 4; (with_reducible refine (HS4.out _ (And.right (And.right (by assumption)))).mono ?_); rintro e wx ⟨gx, kx, rfl, hrx, hbw, hbx⟩) | ((refine Kd.R_append_rows_step kSt (Rr := fun x cs => x.Ok ∧ cs = encSt x) (w0 := w6) (W := wx) w6.heap.size (by rfl) (.tmp 107) (.tmp 109) 22 32 _ 56 (by rfl) Try.underlying22 info32 (by decide) (by decide) (by decide) _ la lb B nb cb (fun k => w6.heap.size ≤ k) (fun _ => False) (by rfl) (by rfl) hrx (Kd.C_below HB6'.out hbw) (fun _ _ h => h) (fun _ hk => hk.elim) (fun k hk => Nat.le_trans hbw.size hk) hbw hbw.size (by rw [HNA.out]; omega) ?_; intro v9 w9 hr9 hb9 hg9 hat9; rw [HLB.out] at hr9; obtain ⟨A9, c9, rfl, ho9⟩ := OutAt.of_R hr9)))
          go_wp2_with fail
          go_meet
          case rel => exact ⟨A9, c9, rfl, ho9, hb9⟩
        case rest =>
          obtain ⟨A9, c9, rfl, ho9, hb9⟩ := hcut
          obtain ⟨w7, rfl⟩ : ∃ w7, w7 = wc := ⟨_, rfl⟩
          have HO9 := Lib.hid ho9
          have HB67 := Lib.hid hb9
          have HMI := Lib.hid (show IsMerge LB M from by rw [← HLB.out, ← HMG.out]; exact mg_is _)
          obtain ⟨n9, hn9⟩ : ∃ n9, LB.length = n9 := ⟨_, rfl⟩
          rw [hn9]
          have HN9 := Lib.hid hn9
          have hn9b : n9 ≤ 200000000 := by rw [← hn9, ← HLB.out, List.length_append, HNA.out, HNB.out]; omega
          clear hb9 ho9 hn9 HS HKP HS4
          go_wp2_with fail
          go_loopw [10] (fun v10 wr => ∃ i : Nat, i ≤ n9 ∧ v10 = .int .i64 i ∧ Below w7.heap.size w7 wr) (fun v10 _ => n9 - (RowKit.intOf v10).toNat)
          case atStart => exact ⟨0, Nat.zero_le _, rfl, Below.refl _ _⟩
          case round =>
            obtain ⟨i, hi, rfl, hb⟩ := hrel
            have HB7r := Lib.hid hb
            have HB6r := Lib.hid (HB67.out.trans (hb.mono HB67.out.size))
            clear hb
            by_cases hlt : i < n9
            · have hil : i < LB.length := by rw [HN9.out]; exact hlt
              obtain ⟨g9, rfl, _, hg9, hrow9⟩ := HO9.out.2.2.2 (by omega)
              have hys := (hrow9.below hg9 HB7r.out).st HO9.out.2.2.1 i hil
              have hbest := HMI.out.best _ (List.getElem_mem hil)
              have hall : ∀ x ∈ M, x.n = LB[i].n → ¬ bt LB[i] x := fun x hx e => by
                obtain ⟨z, hz, e1, b1⟩ := hbest
                have : z = x := srt_name HMI.out.srt hz hx (e1.trans e.symm)
                exact this ▸ b1
              have hsome : ∃ j, ∃ h : j < M.length, M[j].n = LB[i].n := by
                obtain ⟨z, hz, e1, _⟩ := hbest
                obtain ⟨j, hj, rfl⟩ := List.mem_iff_getElem.1 hz
                exact ⟨j, hj, e1⟩
              obtain ⟨y, hy⟩ : ∃ y, LB[i] = y := ⟨_, rfl⟩
              rw [hy] at hys hall hsome
              have HYS := Lib.hid hys
              have HALL := Lib.hid hall
              have HSOME := Lib.hid hsome
              have qi0 : (0 : Int) ≤ (i : Int) := by omega
              have qi1 : (i : Int) < (n9 : Int) := by omega
              clear hil hg9 hrow9 hbest hall hsome hy hys
              go_wp2_with fail
              obtain ⟨wo, rfl⟩ : ∃ wo, wo = wr := ⟨_, rfl⟩
              go_loopw [11, 12] (fun v11 v12 wr => ∃ (k : Nat) (f : Bool), k ≤ nm ∧ v12 = .int .i64 k ∧ v11 = .bool f ∧ Below wo.heap.size wo wr ∧ (f = true ↔ ∃ j, ∃ h : j < M.length, j < k ∧ M[j].n = y.n)) (fun _ v12 _ => nm - (RowKit.intOf v12).toNat)
              case atStart => exact ⟨0, false, Nat.zero_le _, rfl, rfl, Below.refl _ _, by simp⟩
              case round =>
                obtain ⟨k, f, hk, rfl, rfl, hbr, hf⟩ := hrel
                have HBr := Lib.hid hbr
                have HF := Lib.hid hf
                clear hbr hf
                by_cases hkl : k < nm
                · have hkM : k < M.length := by rw [HNM.out]; exact hkl
                  have hxs := (HR6.out.below HG6.out (HB6r.out.trans (HBr.out.mono HB6r.out.size))).st HOM.out k hkM
                  have hnb := HALL.out _ (List.getElem_mem hkM)
                  have hnx : (∃ j, ∃ h : j < M.length, j < k + 1 ∧ M[j].n = y.n) ↔ (∃ j, ∃ h : j < M.length, j < k ∧ M[j].n = y.n) ∨ M[k].n = y.n := by
                    constructor
                    · rintro ⟨j, h, hj, e⟩
                      by_cases ejk : j = k
                      · subst ejk; exact .inr e
                      · exact .inl ⟨j, h, by omega, e⟩
                    · rintro (⟨j, h, hj, e⟩ | e)
                      · exact ⟨j, h, by omega, e⟩
                      · exact ⟨k, hkM, by omega, e⟩
                  obtain ⟨x, hx⟩ : ∃ x, M[k] = x := ⟨_, rfl⟩
                  rw [hx] at hxs hnb hnx
                  have HNXT := Lib.hid hnx
                  have HNB := Lib.hid hnb
                  have HXS := Lib.hid hxs
                  obtain ⟨b1, hb1⟩ : ∃ b1 : ByteArray, (⟨x.n.toArray⟩ : ByteArray) = b1 := ⟨_, rfl⟩
                  obtain ⟨b2, hb2⟩ : ∃ b2 : ByteArray, (⟨y.n.toArray⟩ : ByteArray) = b2 := ⟨_, rfl⟩
                  have n1 : ∀ q : Cls wr, q.at.cell? ⟨gm, k * 34, none⟩ = some (.string b1) := fun q => q.cell (hb1 ▸ hxs.name)
                  have n2 : ∀ q : Cls wr, q.at.cell? ⟨g9, i * 34, none⟩ = some (.string b2) := fun q => q.cell (hb2 ▸ (HYS.out.below HBr.out).name)
                  have qk0 : (0 : Int) ≤ (k : Int) := by omega
                  have qk1 : (k : Int) < (nm : Int) := by omega
                  by_cases he : x.n = y.n
                  · have heq : (b1.toList == b2.toList) = true := by rw [← hb1, ← hb2]; simpa [ByteArray.toList_eq] using he
                    have HHIT := Lib.hid (show true = true ↔ ∃ j, ∃ h : j < M.length, j < k + 1 ∧ M[j].n = y.n from ⟨fun _ => HNXT.out.2 (.inr he), fun _ => rfl⟩)
                    have HNBT := Lib.hid (HNB.out he)
                    clear he hnx hnb hxs hx hb1 hb2 hkM
                    go_upto_region 21 with (fail)
                    refine wp_region_cls (by kernel_rfl) (by kernel_rfl) ?_
                    repeat (first | go_big_quiet_skip | go_big_quiet_step (fail))
                    refine wpQuiet_nil ?_
                    rintro wy ⟨q, rfl⟩
                    have HXz := Lib.hid (HXS.out.below q.below)
                    have HYz := Lib.hid ((HYS.out.below HBr.out).below q.below)
                    have HBz := Lib.hid (HBr.out.trans (q.below.mono HBr.out.size))
                    obtain ⟨wz, hwz⟩ : ∃ wz, q.at = wz := ⟨_, rfl⟩
                    rw [hwz] at HXz HYz HBz ⊢
                    clear hwz q n1 n2 heq
                    have s1 : ∀ q : Cls wz, q.at.cell? ⟨gm, k * 34 + 33, none⟩ = some (.int .u64 (x.seq : Int)) := fun q => q.cell HXz.out.seq
                    have s2 : ∀ q : Cls wz, q.at.cell? ⟨g9, i * 34 + 33, none⟩ = some (.int .u64 (y.seq : Int)) := fun q => q.cell HYz.out.seq
                    have HI1 := Lib.hid (fun w' (h : Below wz.heap.size wz w') => ((HXz.out.below h).id.load HXz.out.1.id : (Instr.loadAt 29 (.pointer (some ⟨gm, k * 34 + 1, none⟩))).run Try.prog w' = _))
                    have HI2 := Lib.hid (fun w' (h : Below wz.heap.size wz w') => ((HYz.out.below h).id.load HYz.out.1.id : (Instr.loadAt 29 (.pointer (some ⟨g9, i * 34 + 1, none⟩))).run Try.prog w' = _))
                    have hci := fun W : World => cmpid_walk x.id y.id HXz.out.1.id HYz.out.1.id W
                    obtain ⟨c, hc⟩ : ∃ c, compareBytes x.id y.id = c := ⟨_, rfl⟩
                    rw [hc] at hci
                    have HCI := Lib.hid hci
                    by_cases hgt : y.seq < x.seq
                    · have hgt' : (y.seq : Int) < (x.seq : Int) := by omega
                      clear hgt hc hci
                      go_upto_region 22 with (fail)
                      refine wp_region_cls (by kernel_rfl) (by kernel_rfl) ?_
                      repeat (first | go_big_quiet_skip | (go_big_quiet_want; refine quiet_ld 29 (.tmp 161) rfl ⟨gm, k * 34 + 1, none⟩ rfl (.agg (cl x.id).toArray) HI1.out ?_; (try simp only [Act.put, List.setIfInBounds_toArray, List.set_cons_zero, List.set_cons_succ]); go_big_quiet_on) | (go_big_quiet_want; refine quiet_ld 29 (.tmp 166) rfl ⟨g9, i * 34 + 1, none⟩ rfl (.agg (cl y.id).toArray) HI2.out ?_; (try simp only [Act.put, List.setIfInBounds_toArray, List.set_cons_zero, List.set_cons_succ]); go_big_quiet_on) | go_big_quiet_step (refine cls_call (HCI.out _)))
                      refine wpQuiet_nil ?_
                      rintro wy ⟨q, rfl⟩
                      have HQ := Lib.hid (HBz.out.trans (q.below.mono HBz.out.size))
                      clear s1 s2
                      go_wp2_with fail
                      go_roundw
                      case rel => exact ⟨k + 1, true, by omega, by go_num, rfl, HQ.out, HHIT.out⟩
                      all_goals (simp only [RowKit.intOf]; omega)
                    · have hse : x.seq = y.seq := by
                        have h1 : ¬ x.seq < y.seq := fun h => HNBT.out (.inl h)
                        omega
                      have hcp : (0 : Int) ≤ c := by
                        have h2 : ¬ x.id < y.id := fun h => HNBT.out (.inr ⟨hse.symm, h⟩)
                        have h3 := cmpb_lt x.id y.id
                        rw [hc] at h3
                        have h4 : ¬ c < 0 := fun h => h2 (h3.1 h)
                        omega
                      rw [hse] at s1
                      clear hgt hc hci hse
                      go_upto_region 22 with (fail)
                      refine wp_region_cls (by kernel_rfl) (by kernel_rfl) ?_
                      repeat (first | go_big_quiet_skip | (go_big_quiet_want; refine quiet_ld 29 (.tmp 161) rfl ⟨gm, k * 34 + 1, none⟩ rfl (.agg (cl x.id).toArray) HI1.out ?_; (try simp only [Act.put, List.setIfInBounds_toArray, List.set_cons_zero, List.set_cons_succ]); go_big_quiet_on) | (go_big_quiet_want; refine quiet_ld 29 (.tmp 166) rfl ⟨g9, i * 34 + 1, none⟩ rfl (.agg (cl y.id).toArray) HI2.out ?_; (try simp only [Act.put, List.setIfInBounds_toArray, List.set_cons_zero, List.set_cons_succ]); go_big_quiet_on) | go_big_quiet_step (refine cls_call (HCI.out _)))
                      refine wpQuiet_nil ?_
                      rintro wy ⟨q, rfl⟩
                      have HQ := Lib.hid (HBz.out.trans (q.below.mono HBz.out.size))
                      clear s1 s2
                      go_wp2_with fail
                      go_roundw
                      case rel => exact ⟨k + 1, true, by omega, by go_num, rfl, HQ.out, HHIT.out⟩
                      all_goals (simp only [RowKit.intOf]; omega)
                  · have heq : (b1.toList == b2.toList) = false := by rw [← hb1, ← hb2]; simpa [ByteArray.toList_eq] using he
                    have HHIT := Lib.hid (show f = true ↔ ∃ j, ∃ h : j < M.length, j < k + 1 ∧ M[j].n = y.n from HF.out.trans ⟨fun h => HNXT.out.2 (.inl h), fun h => (HNXT.out.1 h).resolve_right he⟩)
                    clear he hnx hnb hxs hx hb1 hb2 hkM
                    go_upto_region 21 with (fail)
                    refine wp_region_cls (by kernel_rfl) (by kernel_rfl) ?_
                    repeat (first | go_big_quiet_skip | go_big_quiet_step (fail))
                    refine wpQuiet_nil ?_
                    rintro wy ⟨q, rfl⟩
                    have HQ := Lib.hid (HBr.out.trans (q.below.mono HBr.out.size))
                    clear n1 n2 heq
                    go_wp2_with fail
                    go_roundw
                    case rel => exact ⟨k + 1, f, by omega, by go_num, rfl, HQ.out, HHIT.out⟩
                    all_goals (simp only [RowKit.intOf]; omega)
                · obtain rfl : nm = k := by omega
                  obtain rfl : f = true := HF.out.2 (by
                    obtain ⟨j, h, e⟩ := HSOME.out
                    exact ⟨j, h, by rw [← HNM.out]; exact h, e⟩)
                  have HB7q := Lib.hid (HB7r.out.trans (HBr.out.mono HB7r.out.size))
                  go_wp2_with fail
                  go_roundw
                  case rel => exact ⟨i + 1, by omega, by go_num, HB7q.out⟩
                  all_goals (simp only [RowKit.intOf]; omega)
            · obtain rfl : n9 = i := by omega
              obtain ⟨w8, rfl⟩ : ∃ w8, w8 = wr := ⟨_, rfl⟩
              have HB68 := Lib.hid HB6r.out
              have HA8 := Lib.hid (Kd.C_below HA6.out HB68.out)
              have HB8 := Lib.hid (Kd.C_below HB6.out HB68.out)
              have HCM8 := Lib.hid (HCM6.out.below HB68.out)
              have HBw8 := Lib.hid (HB6w.out.trans (HB68.out.mono HB6w.out.size))
              have HC8 := Lib.hid (Kd.C_below HC.out HBw8.out)
              have HR8 := Lib.hid (HR6.out.below HG6.out HB68.out)
              have HG8 := Lib.hid (Nat.lt_of_lt_of_le HG6.out HB68.out.size)
              have HM8 := Lib.hid (HNM.out ▸ HR8.out.C HOM.out (by rw [HNM.out]; omega) : Kd.C kSt w8 (some ⟨gm, 0, none⟩) nm M)
              clear HB7r HB6r HO9 HB67 HMI HN9 HB6' HA6 HB6 HCM6 HB6w HR6 HG6
              obtain ⟨X, hX⟩ : ∃ X, mg (M ++ lc) = X := ⟨_, rfl⟩
              obtain ⟨nx, hnx⟩ : ∃ nx, X.length = nx := ⟨_, rfl⟩
              obtain ⟨Z, hZ⟩ : ∃ Z, mg (lc ++ lb) = Z := ⟨_, rfl⟩
              obtain ⟨nz, hnz⟩ : ∃ nz, Z.length = nz := ⟨_, rfl⟩
              have hYX : mg (la ++ Z) = X := by rw [← hZ, mg_three, HLB.out, ← HLB.out, HMG.out, hX]
              have hnzb : nz ≤ nb + nc := by
                have h := mg_len (lc ++ lb)
                rw [List.length_append, hZ, HNB.out, HNC.out, hnz] at h
                omega
              have hab := fun W (hb : Below w8.heap.size w8 W) => merge5 la lb A B ca cb W (Kd.C_below HA8.out hb) (Kd.C_below HB8.out hb) (by rw [HNA.out, HNB.out]; omega)
              have hmc := fun W g k (hx : Kd.C kSt W (some ⟨g, 0, none⟩) M.length M) (hb : Below w8.heap.size w8 W) => merge5 M lc (some ⟨g, 0, none⟩) C k cc W hx (Kd.C_below HC8.out hb) (by rw [HNM.out, HNC.out]; omega)
              have hcb5 := fun W (hb : Below w8.heap.size w8 W) => merge5 lc lb C B cc cb W (Kd.C_below HC8.out hb) (Kd.C_below HB8.out hb) (by rw [HNC.out, HNB.out]; omega)
              have haz := fun W g k (hx : Kd.C kSt W (some ⟨g, 0, none⟩) Z.length Z) (hb : Below w8.heap.size w8 W) => merge5 la Z A (some ⟨g, 0, none⟩) ca k W (Kd.C_below HA8.out hb) hx (by rw [HNA.out, hnz]; omega)
              unfold sl at hab hmc hcb5 haz
              rw [HNA.out, HNB.out, HMG.out, HNM.out] at hab
              rw [HNM.out, HNC.out, hX, hnx] at hmc
              rw [HNC.out, HNB.out, hZ, hnz] at hcb5
              rw [HNA.out, hnz, hYX, hnx] at haz
              have HAB := Lib.hid hab
              have HMC := Lib.hid hmc
              have HCB := Lib.hid hcb5
              have HAZ := Lib.hid haz
              have HNX := Lib.hid hnx
              have hnxb : nx ≤ nm + nc := by
                have h := mg_len (M ++ lc)
                rw [List.length_append, hX, HNM.out, HNC.out, hnx] at h
                exact h
              have HS := Lib.hid (fun W (hb : Below w8.heap.size w8 W) => (⟨(HCM8.out.below hb).c0, (HCM8.out.below hb).c1, (HCM8.out.below hb).c2, hb⟩ : W.cell? ⟨h0, 0, none⟩ = some (.slice A na ca) ∧ W.cell? ⟨h0, 1, none⟩ = some (.slice B nb cb) ∧ W.cell? ⟨h0, 2, none⟩ = some (.slice C nc cc) ∧ Below w8.heap.size w8 W))
              have HKP := Lib.hid (fun W W' (hs : W.cell? ⟨h0, 0, none⟩ = some (.slice A na ca) ∧ W.cell? ⟨h0, 1, none⟩ = some (.slice B nb cb) ∧ W.cell? ⟨h0, 2, none⟩ = some (.slice C nc cc) ∧ Below w8.heap.size w8 W) (hb : Below W.heap.size W W') => HS.out W' (hs.2.2.2.trans (hb.mono hs.2.2.2.size)))
              clear hab hmc hcb5 haz hnx hX hZ hnz hYX
              go_upto_region 25 with (fail)
              go_cut [13] from 174 to 181 (fun v13 wx => ∃ g k, v13 = .slice (some ⟨g, 0, none⟩) nx k ∧ Kd.C kSt wx (some ⟨g, 0, none⟩) nx X ∧ Below w8.heap.size w8 wx)
              case first =>
                go_region_held3 (fun w' => w'.cell? ⟨h0, 0, none⟩ = some (.slice A na ca) ∧ w'.cell? ⟨h0, 1, none⟩ = some (.slice B nb cb) ∧ w'.cell? ⟨h0, 2, none⟩ = some (.slice C nc cc) ∧ Below w8.heap.size w8 w')
                  (first | assumption | exact HS.out _ (below_drewN1 _) | exact HKP.out _ _ (by assumption) (by assumption))
                  (first | (go_at_call 5; (with_reducible refine (HAB.out _ (And.right (And.right (And.right (by assumption))))).mono ?_); rintro e wx ⟨gx, kx, rfl, _, hcx, _, _, hbx⟩) | (go_at_call 5; (with_reducible refine (HMC.out _ _ _ hcx (And.right (And.right (And.right (by assumption))))).mono ?_); rintro e wy ⟨gy, ky, rfl, _, hcy, _, _, hby⟩))
                all_goals
                  rename_i hS
                  go_wp2_with fail
                  go_meet
                  case rel => exact ⟨gy, ky, rfl, hcy, hS.2.2.2⟩
              case rest =>
                obtain ⟨gx, kx, rfl, hcx, hbx⟩ := hcut
                obtain ⟨w9, rfl⟩ : ∃ w9, w9 = wc := ⟨_, rfl⟩
                have HCX := Lib.hid hcx
                have HB89 := Lib.hid hbx
                clear hcx hbx
                go_upto_region 26 with (fail)
                go_cut [14] from 182 to 189 (fun v14 wx => ∃ g k, v14 = .slice (some ⟨g, 0, none⟩) nx k ∧ Kd.C kSt wx (some ⟨g, 0, none⟩) nx X ∧ Below w9.heap.size w9 wx)
                case first =>
                  go_region_held3 (fun w' => w'.cell? ⟨h0, 0, none⟩ = some (.slice A na ca) ∧ w'.cell? ⟨h0, 1, none⟩ = some (.slice B nb cb) ∧ w'.cell? ⟨h0, 2, none⟩ = some (.slice C nc cc) ∧ Below w8.heap.size w8 w')
                    (first | assumption | exact HS.out _ (HB89.out.trans ((below_drewN1 _).mono HB89.out.size)) | exact HKP.out _ _ (by assumption) (by assumption))
                    (first | (go_at_call 5; (with_reducible refine (HCB.out _ (And.right (And.right (And.right (by assumption))))).mono ?_); rintro e wx ⟨gu, ku, rfl, _, hcu, _, _, hbu⟩) | (go_at_call 5; (with_reducible refine (HAZ.out _ _ _ hcu (And.right (And.right (And.right (by assumption))))).mono ?_); rintro e wy ⟨gy, ky, rfl, _, hcy, _, _, hby⟩))
                  all_goals
                    go_wp2_with fail
                    go_meet
                    case rel => exact ⟨gy, ky, rfl, hcy, ((below_drewN1 w9).trans hbu).trans (hby.mono hbu.size)⟩
                case rest =>
                  obtain ⟨gy, ky, rfl, hcy, hby⟩ := hcut
                  obtain ⟨w10, rfl⟩ : ∃ w10, w10 = wc := ⟨_, rfl⟩
                  have HCX10 := Lib.hid (Kd.C_below HCX.out hby)
                  have HCY10 := Lib.hid hcy
                  have HB910 := Lib.hid (HB89.out.trans (hby.mono HB89.out.size))
                  clear hcy hby HCX HB89 HS HKP HAZ HCB HMC
                  go_wp2_with fail
                  refine (one5 w10).mono ?_
                  rintro e w11 ⟨go, ko, rfl, hco, hbo⟩
                  have HBo := Lib.hid (HB910.out.trans (hbo.mono HB910.out.size))
                  have HCO := Lib.hid hco
                  have HCX11 := Lib.hid (Kd.C_below HCX10.out hbo)
                  have HCY11 := Lib.hid (Kd.C_below HCY10.out hbo)
                  have HA11 := Lib.hid (Kd.C_below HA8.out HBo.out)
                  have HB11 := Lib.hid (Kd.C_below HB8.out HBo.out)
                  have HM11 := Lib.hid (Kd.C_below HM8.out HBo.out)
                  have HCM11 := Lib.hid (HCM8.out.below HBo.out)
                  have hMMe : mg (M ++ M) = M := by rw [← HMG.out, mg_self]
                  have hBAe : mg (lb ++ la) = M := by rw [← HMG.out, mg_swap]
                  have HM11' := Lib.hid (HNM.out.symm ▸ HM11.out : Kd.C kSt w11 (some ⟨gm, 0, none⟩) M.length M)
                  have HX11' := Lib.hid (HNX.out.symm ▸ HCX11.out : Kd.C kSt w11 (some ⟨gx, 0, none⟩) X.length X)
                  have HY11' := Lib.hid (HNX.out.symm ▸ HCY11.out : Kd.C kSt w11 (some ⟨gy, 0, none⟩) X.length X)
                  have hba := fun W (hb : Below w11.heap.size w11 W) => merge5 lb la B A cb ca W (Kd.C_below HB11.out hb) (Kd.C_below HA11.out hb) (by rw [HNA.out, HNB.out]; omega)
                  have hmm := fun W (hb : Below w11.heap.size w11 W) => merge5 M M (some ⟨gm, 0, none⟩) (some ⟨gm, 0, none⟩) km km W (Kd.C_below HM11'.out hb) (Kd.C_below HM11'.out hb) (by rw [HNM.out]; omega)
                  have h9 := fun W (hb : Below w11.heap.size w11 W) => merge9 la lb A B ca cb W (Kd.C_below HA11.out hb) (Kd.C_below HB11.out hb) (by rw [HNA.out, HNB.out]; omega)
                  have he := fun W A' c' (hx : Kd.C kSt W A' M.length M) (hb : Below w11.heap.size w11 W) => eq6 M (some ⟨gm, 0, none⟩) A' km c' W (Kd.C_below HM11'.out hb) hx
                  have hxy := fun W (hb : Below w11.heap.size w11 W) => eq6 X (some ⟨gx, 0, none⟩) (some ⟨gy, 0, none⟩) kx ky W (Kd.C_below HX11'.out hb) (Kd.C_below HY11'.out hb)
                  unfold sl at hba hmm
                  rw [HNA.out, HNB.out, hBAe, HNM.out] at hba
                  rw [HNM.out, hMMe, HNM.out] at hmm
                  rw [HNA.out, HNB.out, HMG.out, HNM.out] at h9
                  rw [HNM.out] at he
                  rw [HNX.out] at hxy
                  have HBA := Lib.hid hba
                  have HMM := Lib.hid hmm
                  have H9 := Lib.hid h9
                  have HE := Lib.hid he
                  have HXY := Lib.hid hxy
                  have c0 := HCM11.out.c0
                  have c1 := HCM11.out.c1
                  clear hMMe hBAe hba hmm h9 he hxy hco hbo HAB HCX10 HCY10 HB910
                  go_wp2_with fail
                  refine (HBA.out _ (Below.refl _ _)).mono ?_
                  rintro e w12 ⟨g12, k12, rfl, _, hc12, _, _, hb12⟩
                  have HC12 := Lib.hid hc12
                  have HB1 := Lib.hid hb12
                  clear hc12 hb12 c0 c1
                  go_wp2_with fail
                  refine (HE.out _ _ _ HC12.out HB1.out).mono ?_
                  rintro e w13 ⟨rfl, hb13⟩
                  have HB2 := Lib.hid (HB1.out.trans (hb13.mono HB1.out.size))
                  clear hb13
                  go_wp2_with fail
                  refine (HMM.out _ HB2.out).mono ?_
                  rintro e w14 ⟨g14, k14, rfl, _, hc14, _, _, hb14⟩
                  have HC14 := Lib.hid hc14
                  have HB3 := Lib.hid (HB2.out.trans (hb14.mono HB2.out.size))
                  clear hc14 hb14
                  go_wp2_with fail
                  refine (HE.out _ _ _ HC14.out HB3.out).mono ?_
                  rintro e w15 ⟨rfl, hb15⟩
                  have HB4 := Lib.hid (HB3.out.trans (hb15.mono HB3.out.size))
                  have c0 := (HCM11.out.below HB4.out).c0
                  have c1 := (HCM11.out.below HB4.out).c1
                  clear hb15
                  go_wp2_with fail
                  refine (H9.out _ HB4.out).mono ?_
                  rintro e w16 ⟨A16, c16, rfl, hc16, hb16⟩
                  have HC16 := Lib.hid hc16
                  have HB5 := Lib.hid (HB4.out.trans (hb16.mono HB4.out.size))
                  clear hc16 hb16 c0 c1
                  go_wp2_with fail
                  refine (HE.out _ _ _ HC16.out HB5.out).mono ?_
                  rintro e w17 ⟨rfl, hb17⟩
                  have HB6 := Lib.hid (HB5.out.trans (hb17.mono HB5.out.size))
                  clear hb17
                  go_wp2_with fail
                  refine (HXY.out _ HB6.out).mono ?_
                  rintro e w18 ⟨rfl, hb18⟩
                  have HB7 := Lib.hid (HB6.out.trans (hb18.mono HB6.out.size))
                  have co := pw_cell_below HB7.out HCO.out
                  clear hb18
                  go_wp2_with fail
                  go_ret
                  refine ⟨rfl, HB0.out.trans ((HBw8.out.trans ((HBo.out.trans (HB7.out.mono HBo.out.size)).mono HBw8.out.size)).mono HB0.out.size)⟩
end Go.Proofs.Ytkjaffnplehhaaa.Rg
