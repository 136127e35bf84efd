/- The walk of the law StoreKeeps: it returns true. -/
import Derived.Test.YtfbkkcigkpffiaaDoorHb
import Derived.Test.YtfbkkcigkpffiaaDoorGm
namespace Go.Proofs.YtfbkkcigkpffiaaDoor.St
open Go Go.Lib Go.RowKit Go.ChangeMaps Go.Proofs.YtfbkkcigkpffiaaDoorW.PrintWords Go.Proofs.YtfbkkcigkpffiaaDoorW.PrintLast Go.Proofs.YtfbkkcigkpffiaaDoorW.PrintMore Go.Proofs.YtfbkkcigkpffiaaDoor.PStoreMany
set_option linter.unusedVariables false
set_option linter.unusedSimpArgs false
theorem uq_nodup : ∀ {its : Its}, Uq its → (its.map (·.1)).Nodup
  | [], _ => List.nodup_nil
  | (k, x) :: r, h => by
    rw [List.map_cons, List.nodup_cons]
    exact ⟨fun hm => by
      have := h.1
      rw [iget_none] at this
      exact this hm, uq_nodup h.2⟩
/-- Ids that are sorted, each once, rise. -/
theorem rises {D : List By} (hs : Sorted D) (hn : D.Nodup) {i : Nat} (hi : i + 1 < D.length) : D[i] < D[i + 1] := by
  have h1 := List.pairwise_iff_getElem.1 hs i (i + 1) (by omega) hi (by omega)
  rcases by_tri D[i] D[i + 1] with h | h | h
  · exact h
  · exact absurd h (List.pairwise_iff_getElem.1 hn i (i + 1) (by omega) hi (by omega))
  · exact absurd h h1
theorem kind_four (t : Th) : t.kind ≠ 0 := by cases t <;> simp [Th.kind]
set_option maxRecDepth 100000 in
set_option maxHeartbeats 8000000 in
theorem keeps_walk (bg : List Int) (rk : Nat → Int) (tb : Tb) (er : Nat → Int) (h0 : ∀ m, er m = 0 ↔ m = 0) (encs : List (List Int)) (gone : List Int) (NN : Int) (A G : Option Addr) (cA cG : Nat) (w : World)
    (hT : Tabs bg rk w) (hU : U8T tb w) (hE : Ers er w) (hS : SetAt w A G encs gone) (hok : SetOk encs gone) :
    Calls Tryd.prog 8 #[.agg #[.slice A encs.length cA, .slice G gone.length cG, .int .i64 NN]] w fun e w' => e = .returned (.bool true) ∧ Below w.heap.size w w' := by
  obtain ⟨w1, hw1⟩ : ∃ w1, w.alloc (.cells [Value.slice A encs.length cA, Value.slice G gone.length cG, Value.int .i64 NN].toArray 53) = w1 := ⟨_, rfl⟩
  have HB1 := Lib.hid (show Below w.heap.size w w1 from hw1 ▸ below_alloc (Below.refl _ _) _)
  have HP := Lib.hid (show Blk w1 w.heap.size 53 [Value.slice A encs.length cA, Value.slice G gone.length cG, Value.int .i64 NN] from hw1 ▸ Blk.new w 53 _)
  have HT1 := Lib.hid (hT.below HB1.out)
  have HU1 := Lib.hid (hU.below HB1.out)
  have HE1 := Lib.hid (hE.below HB1.out)
  have HS1 := Lib.hid (hS.below HB1.out)
  have HOK := Lib.hid hok
  have HER := Lib.hid h0
  have HFI := Lib.hid (filled_walk bg rk tb er h0 encs gone NN A G cA cG w1 (hT.below HB1.out) (hU.below HB1.out) (hE.below HB1.out) (hS.below HB1.out) hok)
  obtain ⟨M, hM⟩ : ∃ M, encs.length = M := ⟨_, rfl⟩
  have HM := Lib.hid hM
  have HML := Lib.hid (show M ≤ 1048576 from hM ▸ hok.le)
  obtain ⟨K, hK⟩ : ∃ K, gone.length = K := ⟨_, rfl⟩
  rw [hM, hK] at HFI HP hw1 ⊢
  have HW1 := Lib.hid hw1
  have c0 : w1.cell? ⟨w.heap.size, 0, none⟩ = some (.slice A M cA) := HP.out.cell 0
  have c1 : w1.cell? ⟨w.heap.size, 1, none⟩ = some (.slice G K cG) := HP.out.cell 1
  have c2 : w1.cell? ⟨w.heap.size, 2, none⟩ = some (.int .i64 NN) := HP.out.cell 2
  clear hT hU hE hS hok hM hK hw1 h0
  go_enter Tryd.func8, Tryd.ntmps8
  go_upto_region 1 with fail
  change Code.wp _ _ _ _ (w.alloc (.cells [Value.slice A M cA, Value.slice G K cG, Value.int .i64 NN].toArray 53))
  rw [HW1.out]
  go_wp2_with fail
  refine HFI.out.mono ?_
  rintro e w2 ⟨ks, km, its, rfl, hfl, hb2⟩
  have HFL := Lib.hid hfl
  have HB2 := Lib.hid hb2
  have HID2 := Lib.hid (ids_walk ks km its w2 hfl.st (by have := hfl.len; omega))
  clear hfl hb2 HFI c0 c1 c2
  go_wp2_with fail
  refine HID2.out.mono ?_
  rintro e w3 ⟨g, cap, D, rfl, hperm, hsort, h32, hrow, hg0, hg, hcap, hb3⟩
  obtain ⟨n, hn⟩ : ∃ n, D.length = n := ⟨_, rfl⟩
  have HN := Lib.hid hn
  have HPM := Lib.hid hperm
  have HSO := Lib.hid hsort
  have HND := Lib.hid (show D.Nodup from hperm.nodup_iff.2 (uq_nodup HFL.out.uq))
  have H32 := Lib.hid h32
  have HROW := Lib.hid hrow
  have HG := Lib.hid hg
  have HB3 := Lib.hid (HB2.out.trans (hb3.mono HB2.out.size))
  have HS3 := Lib.hid (HFL.out.st.below hb3)
  have hnl : its.length = n := by have h1 := hperm.length_eq; rw [List.length_map] at h1; omega
  have HNL := Lib.hid (show n ≤ 80 from by have := HFL.out.len; omega)
  have HLE := Lib.hid (len_below ks km its w3 HS3.out)
  rw [hnl] at HLE
  have hnn : ((n : Int) != (n : Int)) = false := by simp
  have hne : ((n : Int) == (n : Int)) = true := by simp
  rw [hn]
  clear hn hperm hsort h32 hrow hg hg0 hb3 hcap HID2 hnl
  go_wp2_with fail
  refine HLE.out.mono ?_
  rintro e w4 ⟨rfl, hb4⟩
  have HB4 := Lib.hid (HB3.out.trans (hb4.mono HB3.out.size))
  have HS4 := Lib.hid (HS3.out.below hb4)
  have HRW4 := Lib.hid (HROW.out.below HG.out hb4)
  have HG4 := Lib.hid (show g < w4.heap.size from Nat.lt_of_lt_of_le HG.out hb4.size)
  clear hb4 HLE HS3 HROW HG HB3
  go_wp2_with fail
  clear hnn hne
  go_loopw [6] (fun v6 wr => ∃ i : Nat, i ≤ n ∧ v6 = .int .i64 i ∧ Below w4.heap.size w4 wr) (fun v6 _ => n - (RowKit.intOf v6).toNat)
  case atStart => exact ⟨0, Nat.zero_le _, rfl, Below.refl _ _⟩
  case round =>
    obtain ⟨i, hin, rfl, hbw⟩ := hrel
    have HBW := Lib.hid hbw
    clear hbw
    have hn80 := HNL.out
    by_cases hlt : i < n
    · have hlt' : (i : Int) < (n : Int) := by omega
      have hi0 : (0 : Int) ≤ (i : Int) := by omega
      have hil : i < D.length := by rw [HN.out]; exact hlt
      obtain ⟨k, hk⟩ : ∃ k, D[i] = k := ⟨_, rfl⟩
      have HK := Lib.hid hk
      have HKL := Lib.hid (show k.length = 32 from hk ▸ H32.out _ (List.getElem_mem hil))
      have hkm : k ∈ its.map (·.1) := HPM.out.subset (hk ▸ List.getElem_mem hil)
      have hsm : (iget its k).isSome = true := by
        cases hg : iget its k with
        | none => exact absurd hkm (iget_none.1 hg)
        | some _ => rfl
      have HSM := Lib.hid hsm
      obtain ⟨bb, hbb⟩ := Option.isSome_iff_exists.1 hsm
      have HI1 := Lib.hid hbb
      obtain ⟨hgd1, hgd2, hgd3⟩ := HFL.out.good _ (mem_of_iget hbb)
      have HDG := Lib.hid (show dig bg rk bb = k from hgd1.symm)
      have HPE := Lib.hid (show pe tb bb = 0 from hgd2)
      have HBY := Lib.hid (show ∀ y ∈ bb, Byte y from hgd3)
      have HBB := Lib.hid (show bb.length ≤ 65536 from pe_len hgd2)
      have HCA := Lib.hid (show CellsAt w4 ⟨g, i * 32, none⟩ (cl k) from fun j v hj => by
        rw [Addr.add_lit]
        exact (HRW4.out i hil j v (by rw [hk]; exact hj)).1)
      have HLD := Lib.hid (fun W (hb : Below w4.heap.size w4 W) => (HCA.out.below hb).load 33 Tryd.isAgg33 (fun W => by rw [List.length_map, HKL.out]; exact Tryd.sizeOf33 W))
      have HGT := Lib.hid (get_walk ks km its k HKL.out wr (HS4.out.below HBW.out) (fun b' hb' => by rw [HI1.out] at hb'; injection hb' with hb'; subst hb'; have := HBB.out; omega))
      clear hkm hsm hbb hk hgd1 hgd2 hgd3
      go_wp2_with (refine wpList_ld rfl 33 (.tmp 43) rfl ⟨g, i * 32, none⟩ rfl _ (HLD.out _ HBW.out) ?_)
      refine HGT.out.mono ?_
      rintro e w14 ⟨hb14, hres⟩
      have HB14 := Lib.hid (HBW.out.trans (hb14.mono HBW.out.size))
      rcases hres with ⟨hno, _⟩ | ⟨b1, v1, hb1, rfl, hv1⟩
      · rw [HI1.out] at hno; cases hno
      obtain rfl : bb = b1 := by rw [HI1.out] at hb1; exact Option.some.inj hb1
      obtain ⟨A1, c1, rfl, hc1, hC1⟩ := hv1
      have HC1 := Lib.hid hC1
      have HCC1 := Lib.hid hc1
      have HKW := Lib.hid (skind_walk tb er HER.out ks km its k bb HKL.out w14 (HU1.out.below (HB4.out.trans (HB14.out.mono HB4.out.size))) (HE1.out.below (HB4.out.trans (HB14.out.mono HB4.out.size))) (HS4.out.below HB14.out) HI1.out HPE.out HBY.out)
      obtain ⟨L, hL⟩ : ∃ L, bb.length = L := ⟨_, rfl⟩
      have HLL := Lib.hid hL
      rw [hL]
      clear hb14 hb1 hc1 hC1 hL HGT
      go_wp2_with (refine wpList_ld rfl 33 (.tmp 52) rfl ⟨g, i * 32, none⟩ rfl _ (HLD.out _ HB14.out) ?_)
      refine HKW.out.mono ?_
      rintro e w15 ⟨hb15, t, s, hrd, rfl⟩
      have HB15 := Lib.hid (HB14.out.trans (hb15.mono HB14.out.size))
      have HRD := Lib.hid hrd
      have HC15 := Lib.hid (Kd.C_below HC1.out hb15)
      have HCW := Lib.hid (skids_walk tb er HER.out ks km its k bb HKL.out w15 (HU1.out.below (HB4.out.trans (HB15.out.mono HB4.out.size))) (HE1.out.below (HB4.out.trans (HB15.out.mono HB4.out.size))) (HS4.out.below HB15.out) HI1.out HPE.out HBY.out)
      clear hb15 hrd HKW HC1
      go_wp2_with (refine wpList_ld rfl 33 (.tmp 61) rfl ⟨g, i * 32, none⟩ rfl _ (HLD.out _ HB15.out) ?_)
      refine HCW.out.mono ?_
      rintro e w16 ⟨hb16, v2, t2, s2, hr2, rfl, hk2⟩
      obtain ⟨rfl, rfl⟩ : t = t2 ∧ s = s2 := by
        have h := HRD.out.symm.trans hr2
        simp only [Option.some.injEq, Prod.mk.injEq] at h
        exact h
      have HB16 := Lib.hid (HB15.out.trans (hb16.mono HB15.out.size))
      have HC16 := Lib.hid (Kd.C_below HC15.out hb16)
      have HK2 := Lib.hid hk2
      obtain ⟨A2, c2, rfl, hc2, hC2⟩ := hk2
      have HKA := Lib.hid (kids_any tb er HER.out bb A1 c1 w16 (HU1.out.below (HB4.out.trans (HB16.out.mono HB4.out.size))) (HE1.out.below (HB4.out.trans (HB16.out.mono HB4.out.size))) HC16.out HCC1.out (Nat.le_trans HBB.out (by decide)) HBY.out HPE.out)
      rw [HLL.out] at HKA
      clear hb16 hr2 HCW HC15 hc2 hC2
      go_wp2_with fail
      refine HKA.out.mono ?_
      rintro e w17 ⟨v3, t3, s3, rfl, hr3, hk3, hb17⟩
      obtain ⟨rfl, rfl⟩ : t = t3 ∧ s = s3 := by
        have h := HRD.out.symm.trans hr3
        simp only [Option.some.injEq, Prod.mk.injEq] at h
        exact h
      have HB17 := Lib.hid (HB16.out.trans (hb17.mono HB16.out.size))
      have HC17 := Lib.hid (Kd.C_below HC16.out hb17)
      have HK2' := Lib.hid (HK2.out.below hb17)
      obtain ⟨A2', c2', he2, hc2, hC2⟩ := HK2'.out
      obtain ⟨rfl, rfl⟩ : A2 = A2' ∧ c2 = c2' := by
        injection he2 with h1 _ h3
        exact ⟨h1, h3⟩
      obtain ⟨A3, c3, rfl, hc3, hC3⟩ := hk3
      have HC2 := Lib.hid hC2
      have HC3 := Lib.hid hC3
      clear hb17 hr3 HKA HC16 hc2 hC2 hc3 hC3 he2 HK2 HK2'
      go_upto_region 14 with fail
      have HB117 := Lib.hid (HB4.out.trans (HB17.out.mono HB4.out.size))
      have HNM := Lib.hid (fun W (hw : Below w17.heap.size w17 W) => num_below 0 W)
      have HSU := Lib.hid (fun W (hw : Below w17.heap.size w17 W) => sum_walk bg rk bb A1 c1 W (HT1.out.below (HB117.out.trans (hw.mono HB117.out.size))) (Kd.C_below HC17.out hw) HCC1.out (Nat.le_trans HBB.out (by decide)))
      rw [HDG.out, HLL.out] at HSU
      have HKI := Lib.hid (fun W (hw : Below w17.heap.size w17 W) => (show Calls Tryd.prog 30 #[.slice A1 bb.length c1] W fun e w' => e = .returned (.int .i64 t.kind) ∧ Below W.heap.size W w' from (kind_any tb er HER.out bb A1 c1 W (HU1.out.below (HB117.out.trans (hw.mono HB117.out.size))) (HE1.out.below (HB117.out.trans (hw.mono HB117.out.size))) (Kd.C_below HC17.out hw) HCC1.out (Nat.le_trans HBB.out (by decide)) HBY.out).mono (fun e w' hh => by
        obtain ⟨kk, he, hb, hk⟩ := hh
        obtain ⟨t9, s9, h1, h2⟩ := hk HPE.out
        have h := HRD.out.symm.trans h1
        simp only [Option.some.injEq, Prod.mk.injEq] at h
        exact ⟨by rw [he, h2, h.1], hb⟩)))
      rw [HLL.out] at HKI
      have HSA := Lib.hid (fun W (hw : Below w17.heap.size w17 W) => same_walk (kids t) A2 A3 c2 c3 W (Kd.C_below HC2.out hw) (Kd.C_below HC3.out hw))
      have HHA := Lib.hid (fun W (hw : Below w17.heap.size w17 W) => has_walk ks km its k HKL.out W ((HS4.out.below HB17.out).below hw))
      rw [HSM.out] at HHA
      have hnq : ∀ W, (binOp .neq 33 (vId k) (vId k)).run Tryd.prog W = .ok (.bool false) W := fun W => by rw [neq33 HKL.out HKL.out, decide_eq_true rfl]; rfl
      have hgd := fun (a b : Operand) => guard33 .neq a b k k
      have HL1 := Lib.hid (fun w' (h : Below w17.heap.size w17 w') => HLD.out w' (HB17.out.trans (h.mono HB17.out.size)))
      obtain ⟨q, hq⟩ : ∃ q : Int, t.kind = q := ⟨_, rfl⟩
      have HKZ := Lib.hid (show q ≠ 0 from hq ▸ kind_four t)
      rw [hq] at HKI ⊢
      have q1 : (q == 0) = false := by simpa using HKZ.out
      have q2 : (q != q) = false := by simp
      have q3 : (q == q) = true := by simp
      clear hq
      refine wp_region_cls (by kernel_rfl) (by kernel_rfl) ?_
      repeat (first | go_big_quiet_skip | (go_big_quiet_want; refine quiet_ld 33 (.tmp 94) rfl ⟨g, i * 32, none⟩ rfl (vId k) HL1.out ?_; (try simp only [Act.put, List.setIfInBounds_toArray, List.set_cons_zero, List.set_cons_succ]); go_big_quiet_on) | (go_big_quiet_want; refine quiet_ld 33 (.tmp 118) rfl ⟨g, i * 32, none⟩ rfl (vId k) HL1.out ?_; (try simp only [Act.put, List.setIfInBounds_toArray, List.set_cons_zero, List.set_cons_succ]); go_big_quiet_on) | go_big_quiet_step (first | refine cls_call (HNM.out _ (Cls.below _)) | refine cls_call (HSU.out _ (Cls.below _)) | refine cls_call (HKI.out _ (Cls.below _)) | refine cls_call (HSA.out _ (Cls.below _)) | refine cls_call (HHA.out _ (Cls.below _))))
      refine wpQuiet_nil ?_
      rintro wy ⟨qq, rfl⟩
      have HB18 := Lib.hid (HB17.out.trans (qq.below.mono HB17.out.size))
      obtain ⟨w18, hw18⟩ : ∃ w18, qq.at = w18 := ⟨_, rfl⟩
      rw [hw18] at HB18 ⊢
      clear hw18 qq HNM HSU HKI HSA HHA hnq hgd HL1 q1 q2 q3
      by_cases hz : 0 < i
      · obtain ⟨j, rfl⟩ : ∃ j, i = j + 1 := ⟨i - 1, by omega⟩
        obtain ⟨k0, hk0⟩ : ∃ k0, D[j] = k0 := ⟨_, rfl⟩
        have HK0L := Lib.hid (show k0.length = 32 from hk0 ▸ H32.out _ (List.getElem_mem (by omega)))
        have HRI := Lib.hid (show k0 < k from by have h := rises HSO.out HND.out hil; rwa [hk0, HK.out] at h)
        have HCA0 := Lib.hid (show CellsAt w4 ⟨g, j * 32, none⟩ (cl k0) from fun q v hj => by
          rw [Addr.add_lit]
          exact (HRW4.out j (by omega) q v (by rw [hk0]; exact hj)).1)
        have HL1 := Lib.hid (fun W (hb : Below w18.heap.size w18 W) => HLD.out W (HB18.out.trans (hb.mono HB18.out.size)))
        have HL0 := Lib.hid (fun W (hb : Below w18.heap.size w18 W) => (HCA0.out.below (HB18.out.trans (hb.mono HB18.out.size))).load 33 Tryd.isAgg33 (fun W => by rw [List.length_map, HK0L.out]; exact Tryd.sizeOf33 W))
        have HCM := Lib.hid (fun W (hw : Below w18.heap.size w18 W) => cmpid_walk k0 k HK0L.out HKL.out HRI.out W)
        have hw1 : IntKind.i64.wrap (((j + 1 : Nat) : Int) - 1) = (j : Int) := by rw [IntWalk.i64_in _ (by omega)]; omega
        have hj0 : (0 : Int) ≤ (j : Int) := by omega
        have hjn : (j : Int) < (n : Int) := by omega
        have hpos : (0 : Int) < ((j + 1 : Nat) : Int) := by omega
        clear hk0
        go_upto_region 16 with fail
        refine wp_region_cls (by kernel_rfl) (by kernel_rfl) ?_
        repeat (first | go_big_quiet_skip | (go_big_quiet_want; refine quiet_ld 33 (.tmp 129) rfl ⟨g, j * 32, none⟩ rfl (vId k0) HL0.out ?_; (try simp only [Act.put, List.setIfInBounds_toArray, List.set_cons_zero, List.set_cons_succ]); go_big_quiet_on) | (go_big_quiet_want; refine quiet_ld 33 (.tmp 133) rfl ⟨g, (j + 1) * 32, none⟩ rfl (vId k) HL1.out ?_; (try simp only [Act.put, List.setIfInBounds_toArray, List.set_cons_zero, List.set_cons_succ]); go_big_quiet_on) | go_big_quiet_step (refine cls_call (HCM.out _ (Cls.below _))))
        refine wpQuiet_nil ?_
        rintro wy ⟨qq, rfl⟩
        have HB19 := Lib.hid (HB18.out.trans (qq.below.mono HB18.out.size))
        obtain ⟨w19, hw19⟩ : ∃ w19, qq.at = w19 := ⟨_, rfl⟩
        rw [hw19] at HB19 ⊢
        clear hw19 qq HL0 HL1 HCM hw1
        go_wp2_with fail
        go_roundw
        case rel => exact ⟨j + 1 + 1, by omega, by go_num, HB19.out⟩
        all_goals (simp only [RowKit.intOf]; omega)
      · have hzi : ¬ (0 : Int) < (i : Int) := by omega
        go_upto_region 16 with fail
        refine wp_region_cls (by kernel_rfl) (by kernel_rfl) ?_
        repeat (first | go_big_quiet_skip | go_big_quiet_step (fail))
        refine wpQuiet_nil ?_
        rintro wy ⟨qq, rfl⟩
        have HB19 := Lib.hid (HB18.out.trans (qq.below.mono HB18.out.size))
        obtain ⟨w19, hw19⟩ : ∃ w19, qq.at = w19 := ⟨_, rfl⟩
        rw [hw19] at HB19 ⊢
        clear hw19 qq
        go_wp2_with fail
        go_roundw
        case rel => exact ⟨i + 1, by omega, by go_num, HB19.out⟩
        all_goals (simp only [RowKit.intOf]; omega)
    · obtain rfl : i = n := by omega
      obtain ⟨wz, rfl⟩ : ∃ wz, wz = wr := ⟨_, rfl⟩
      have HBZ := Lib.hid (HB4.out.trans (HBW.out.mono HB4.out.size))
      have HSZ := Lib.hid (HS4.out.below HBW.out)
      have hml := HML.out
      clear HBW HRW4 HG4 HS4 hlt hin
      go_wp2_with fail
      go_loopw [15] (fun v15 wr => ∃ j : Nat, j ≤ M ∧ j ≤ 80 ∧ v15 = .int .i64 j ∧ Below wz.heap.size wz wr) (fun v15 _ => 80 - (RowKit.intOf v15).toNat)
      case atStart => exact ⟨0, Nat.zero_le _, Nat.zero_le _, rfl, Below.refl _ _⟩
      case round =>
        obtain ⟨j, hjM, hj80, rfl, hbw⟩ := hrel
        have HBW := Lib.hid hbw
        have HBr := Lib.hid (HBZ.out.trans (hbw.mono HBZ.out.size))
        have c0 : wr.cell? ⟨w.heap.size, 0, none⟩ = some (.slice A M cA) := (HP.out.below HBr.out).cell 0
        clear hbw
        by_cases hi : j < M ∧ j < 80
        · obtain ⟨hiM, hi8⟩ := hi
          have hi1 : (j : Int) < (M : Int) := by omega
          have hi2 : (j : Int) < 80 := by omega
          obtain ⟨ad, Ai, ci, rfl, hcell, hci, hCi⟩ := HS1.out.enc j (by rw [HM.out]; exact hiM)
          obtain ⟨b, hbe⟩ : ∃ b, encs[j]'(by rw [HM.out]; exact hiM) = b := ⟨_, rfl⟩
          have hmem : b ∈ encs := hbe ▸ List.getElem_mem _
          rw [hbe] at hcell hci hCi
          have HBL := Lib.hid (HOK.out.len b hmem)
          have c1 : wr.cell? (ad.add j) = some (.slice Ai b.length ci) := pw_cell_below HBr.out hcell
          have HIW := Lib.hid (id_walk bg rk b Ai ci wr (HT1.out.below HBr.out) (Kd.C_below hCi HBr.out) hci (by have := HBL.out; omega))
          obtain ⟨d, hd⟩ : ∃ d, dig bg rk b = d := ⟨_, rfl⟩
          have HDL := Lib.hid (show d.length = 32 from hd ▸ dig_len bg rk b)
          obtain ⟨N, hN⟩ : ∃ N, b.length = N := ⟨_, rfl⟩
          rw [hd, hN] at HIW
          rw [hN] at c1
          clear hmem hcell hci hCi hN hbe hd
          go_wp2_with fail
          refine HIW.out.mono ?_
          rintro e w5 ⟨rfl, hb5⟩
          have HB5 := Lib.hid hb5
          clear hb5 HIW c1 c0
          obtain ⟨w6, hw6⟩ : ∃ w6, w5.alloc (.cells (noughts 32).toArray 33) = w6 := ⟨_, rfl⟩
          have HW6 := Lib.hid hw6
          have HI6 := Lib.hid (show Blk w6 w5.heap.size 33 (noughts 32) from hw6 ▸ Blk.new w5 33 (noughts 32))
          have HB6 := Lib.hid (show Below w5.heap.size w5 w6 from hw6 ▸ below_alloc (Below.refl _ _) _)
          have HTH := Lib.hid (HI6.out.there 0 (cl d).toArray.size (by rw [List.size_toArray, List.length_map, HDL.out]; simp))
          have HSZ' := Lib.hid (size33' HDL.out)
          have HON := Lib.hid (one33 d)
          have HI7 := Lib.hid (ret_id d HDL.out HI6.out HB6.out (Nat.le_refl _))
          clear hw6
          go_upto_region 22 with (first | ((change wpList _ _ _ _ _ (w5.alloc (.cells (noughts 32).toArray 33))); rw [HW6.out]; refine wpList_store_mid rfl 33 (.tmp 16) (.tmp 154) rfl w5.heap.size 0 (cl d).toArray rfl rfl HTH.out HSZ'.out HON.out ?_))
          obtain ⟨w7, hw7⟩ : ∃ w7, w6.setCells w5.heap.size 0 (cl d) = w7 := ⟨_, rfl⟩
          rw [hw7] at HI7 ⊢
          have HBI := Lib.hid HI7.out.1
          have HB7 := Lib.hid (HBW.out.trans ((HB5.out.trans (HI7.out.2.mono HB5.out.size)).mono HBW.out.size))
          obtain ⟨ki, hki⟩ : ∃ ki, w5.heap.size = ki := ⟨_, rfl⟩
          rw [hki] at HBI ⊢
          clear hw7 hki HI7 HTH HSZ' HON HI6 HB6 HW6 HB5
          try simp only [Act.put]
          have HL1 := Lib.hid (fun w' (h : Below w7.heap.size w7 w') => (HBI.out.below h).loads 33 Tryd.isAgg33 (fun W => by rw [List.length_map, HDL.out]; exact Tryd.sizeOf33 W))
          cases hg : iget its d with
          | none =>
            have HGT := Lib.hid (get_walk ks km its d HDL.out w7 (HSZ.out.below HB7.out) (fun b' hb' => by rw [hg] at hb'; cases hb'))
            have HG := Lib.hid hg
            clear hg
            go_wp2_with (with_reducible refine wpList_ld rfl 33 (.tmp 16) rfl ⟨ki, 0, none⟩ rfl _ (HL1.out _ (Below.refl _ _)) ?_)
            refine HGT.out.mono ?_
            rintro e w8 ⟨hb8, hres⟩
            rcases hres with ⟨_, rfl⟩ | ⟨b1, v1, hb1, _, _⟩
            case inr => rw [HG.out] at hb1; cases hb1
            have HB8 := Lib.hid (HB7.out.trans (hb8.mono HB7.out.size))
            have HNM := Lib.hid (fun W (hw : Below w8.heap.size w8 W) => num_below 41 W)
            have HHA := Lib.hid (fun W (hw : Below w8.heap.size w8 W) => has_walk ks km its d HDL.out W ((HSZ.out.below HB8.out).below hw))
            rw [HG.out] at HHA
            have HL2 := Lib.hid (fun W (hb : Below w8.heap.size w8 W) => HL1.out W (hb8.trans (hb.mono hb8.size)))
            clear hb8 HGT HL1
            go_upto_region 23 with fail
            refine wp_region_cls (by kernel_rfl) (by kernel_rfl) ?_
            repeat (first | go_big_quiet_skip | (go_big_quiet_want; refine quiet_ld 33 (.tmp 16) rfl ⟨ki, 0, none⟩ rfl (vId d) HL2.out ?_; (try simp only [Act.put, List.setIfInBounds_toArray, List.set_cons_zero, List.set_cons_succ]); go_big_quiet_on) | go_big_quiet_step (first | refine cls_call (HNM.out _ (Cls.below _)) | refine cls_call (HHA.out _ (Cls.below _))))
            refine wpQuiet_nil ?_
            rintro wy ⟨qq, rfl⟩
            have HB9 := Lib.hid (HB8.out.trans (qq.below.mono HB8.out.size))
            obtain ⟨w9, hw9⟩ : ∃ w9, qq.at = w9 := ⟨_, rfl⟩
            rw [hw9] at HB9 ⊢
            clear hw9 qq HL2 HNM HHA
            go_wp2_with fail
            go_roundw
            case rel => exact ⟨j + 1, by omega, by omega, by go_num, HB9.out⟩
            all_goals (simp only [RowKit.intOf]; omega)
          | some bb =>
            obtain ⟨hgd1, hgd2, hgd3⟩ := HFL.out.good _ (mem_of_iget hg)
            have HDG := Lib.hid (show dig bg rk bb = d from hgd1.symm)
            have HBB := Lib.hid (show bb.length ≤ 65536 from pe_len hgd2)
            have HGT := Lib.hid (get_walk ks km its d HDL.out w7 (HSZ.out.below HB7.out) (fun b' hb' => by rw [hg] at hb'; injection hb' with hb'; subst hb'; have := HBB.out; omega))
            have HG := Lib.hid hg
            clear hg hgd1 hgd2 hgd3
            go_wp2_with (with_reducible refine wpList_ld rfl 33 (.tmp 16) rfl ⟨ki, 0, none⟩ rfl _ (HL1.out _ (Below.refl _ _)) ?_)
            refine HGT.out.mono ?_
            rintro e w8 ⟨hb8, hres⟩
            rcases hres with ⟨hno, _⟩ | ⟨b1, v1, hb1, rfl, hv1⟩
            · rw [HG.out] at hno; cases hno
            obtain rfl : bb = b1 := by rw [HG.out] at hb1; exact Option.some.inj hb1
            obtain ⟨A1, c1, rfl, hc1, hC1⟩ := hv1
            have HB8 := Lib.hid (HB7.out.trans (hb8.mono HB7.out.size))
            have HB18 := Lib.hid (HBZ.out.trans (HB8.out.mono HBZ.out.size))
            have HNM := Lib.hid (fun W (hw : Below w8.heap.size w8 W) => num_below 0 W)
            have HHA := Lib.hid (fun W (hw : Below w8.heap.size w8 W) => has_walk ks km its d HDL.out W ((HSZ.out.below HB8.out).below hw))
            rw [HG.out] at HHA
            have HL2 := Lib.hid (fun W (hb : Below w8.heap.size w8 W) => HL1.out W (hb8.trans (hb.mono hb8.size)))
            have HIX := Lib.hid (fun W (hw : Below w8.heap.size w8 W) => id_walk bg rk bb A1 c1 W (HT1.out.below (HB18.out.trans (hw.mono HB18.out.size))) (Kd.C_below hC1 hw) hc1 (Nat.le_trans HBB.out (by decide)))
            obtain ⟨L, hL⟩ : ∃ L, bb.length = L := ⟨_, rfl⟩
            rw [HDG.out, hL] at HIX
            rw [hL]
            have hnq : ∀ W, (binOp .neq 33 (vId d) (vId d)).run Tryd.prog W = .ok (.bool false) W := fun W => by rw [neq33 HDL.out HDL.out, decide_eq_true rfl]; rfl
            have hgd := fun (a b : Operand) => guard33 .neq a b d d
            clear hb8 HGT HL1 hL hb1 hc1 hC1
            go_upto_region 23 with fail
            refine wp_region_cls (by kernel_rfl) (by kernel_rfl) ?_
            repeat (first | go_big_quiet_skip | (go_big_quiet_want; refine quiet_ld 33 (.tmp 16) rfl ⟨ki, 0, none⟩ rfl (vId d) HL2.out ?_; (try simp only [Act.put, List.setIfInBounds_toArray, List.set_cons_zero, List.set_cons_succ]); go_big_quiet_on) | go_big_quiet_step (first | refine cls_call (HNM.out _ (Cls.below _)) | refine cls_call (HHA.out _ (Cls.below _)) | refine cls_call (HIX.out _ (Cls.below _))))
            refine wpQuiet_nil ?_
            rintro wy ⟨qq, rfl⟩
            have HB9 := Lib.hid (HB8.out.trans (qq.below.mono HB8.out.size))
            obtain ⟨w9, hw9⟩ : ∃ w9, qq.at = w9 := ⟨_, rfl⟩
            rw [hw9] at HB9 ⊢
            clear hw9 qq HL2 HNM HHA HIX hnq hgd
            go_wp2_with fail
            go_roundw
            case rel => exact ⟨j + 1, by omega, by omega, by go_num, HB9.out⟩
            all_goals (simp only [RowKit.intOf]; omega)
        · by_cases hiM : j < M
          · have hi1 : (j : Int) < (M : Int) := by omega
            have hi2 : ¬ (j : Int) < 80 := by omega
            go_wp2_with fail
            go_ret
            exact ⟨rfl, HB1.out.trans (HBr.out.mono HB1.out.size)⟩
          · have hi1 : ¬ (j : Int) < (M : Int) := by omega
            go_wp2_with fail
            go_ret
            exact ⟨rfl, HB1.out.trans (HBr.out.mono HB1.out.size)⟩
end Go.Proofs.YtfbkkcigkpffiaaDoor.St
