/- The walk of lives: a store of one. -/
import Derived.Test.YtfbkkcigkpffiaaDoorSdL
import Derived.Test.YtfbkkcigkpffiaaDoorPStoreManyx6
namespace Go.Proofs.YtfbkkcigkpffiaaDoor.St
open Go Go.Lib Go.RowKit Go.ChangeMaps Go.Proofs.YtfbkkcigkpffiaaDoorW.PrintWords Go.Proofs.YtfbkkcigkpffiaaDoorW.PrintLast Go.Proofs.YtfbkkcigkpffiaaDoorW.PrintMore Go.Proofs.YtfbkkcigkpffiaaDoor.PStoreMany
set_option linter.unusedVariables false
set_option linter.unusedSimpArgs false
theorem lit_C (w : World) (l : List Int) (hl : l.length ≤ 9223372036854775807) : Kd.C kB (w.alloc (.cells (l.map b8).toArray 5)) (some ⟨w.heap.size, 0, none⟩) l.length l :=
  ⟨rfl, hl, fun _ => ⟨_, rfl, fun j p hp => ⟨[b8 p], rfl, rfl, fun i u hu => by
    have hi : i = 0 := by
      have := (List.getElem?_eq_some_iff.1 hu).1
      simpa using this
    subst hi
    cases hu
    have h := (Blk.new w 5 (l.map b8)).cell j
    rw [List.getElem?_map, hp] at h
    rw [Addr.add_mid, show 0 + (j * kB.sz + 0) = j by show 0 + (j * 1 + 0) = j; omega]
    exact h⟩⟩⟩
theorem put_first {d di : By} {b : List Int} {nw : Bool} {er : Nat} {its : Its} (h : PutRes d [] b di nw er its) : its = [(d, b)] ∧ nw = true ∧ er = 0 ∧ di = d := by
  unfold PutRes at h
  simpa [iget, iput] using h
theorem eq_120 : satchelref0_Eq.f 10 [1, 120] [1, 120] = some true := by first | kernel_rfl | rfl | (simp [satchelref0_Eq.f, satchelref0_Cmp.f, satchelref0_Cmp.l0]; done)
theorem num_walk (a : Int) (w : World) : Calls Tryd.prog 16 #[.int .i64 a] w fun e w' => e = .returned (.int .i64 a) ∧ Drawn0 w w' := by
  go_enter Tryd.func16, Tryd.ntmps16
  go_wp2
  go_ret
  exact ⟨by first | rfl | (simp; done) | (simp [*]; done), by repeat (first | exact Drawn0.refl _ | apply Drawn0.step)⟩
set_option maxRecDepth 100000 in
set_option maxHeartbeats 4000000 in
theorem lives_walk (bg : List Int) (rk : Nat → Int) (w : World) (hT : Tabs bg rk w) (he : w.cell? ⟨3, 0, none⟩ = some (.int .i64 0)) :
    Calls Tryd.prog 10 #[] w fun e w' => e = .returned (.bool true) ∧ Below w.heap.size w w' := by
  have HT := Lib.hid hT
  have HE := Lib.hid he
  have HN := Lib.hid (snew_walk w)
  clear hT he
  go_enter Tryd.func10, Tryd.ntmps10
  go_wp2_with fail
  refine HN.out.mono ?_
  rintro e w1 ⟨ks, km, rfl, hks, hkm, hs, hb⟩
  have HKM := Lib.hid hkm
  have HS := Lib.hid hs
  have HB := Lib.hid hb
  clear hks hkm hs hb HN
  go_wp2_with fail
  have HBL := Lib.hid (show Below w1.heap.size w1 (w1.alloc (Obj.cells #[Value.int IntKind.u8 1, Value.int IntKind.u8 120] 5)) from below_alloc (Below.refl _ _) _)
  have HCL := Lib.hid (lit_C w1 [1, 120] (by decide))
  have HBW := Lib.hid (HB.out.trans (HBL.out.mono HB.out.size))
  have HPU := Lib.hid (put_walk bg rk ks km [] [120] _ 2 _ (HT.out.below HBW.out) (pw_cell_below HBW.out HE.out) (HS.out.below HBL.out) HCL.out (by decide) (by decide) (by unfold Byte; decide) (by simp))
  refine HPU.out.mono ?_
  rintro e w2 ⟨di, nw, er, its, rfl, hres, hs2, hbut, _⟩
  have HDL := Lib.hid (dig_len bg rk [1, 120])
  obtain ⟨d, hd⟩ : ∃ d, dig bg rk [1, 120] = d := ⟨_, rfl⟩
  rw [hd] at HDL hres
  obtain ⟨rfl, rfl, rfl, h4⟩ := put_first hres
  have h4 := h4.symm
  subst h4
  have HS2 := Lib.hid (show StoreAt w2 ks km [(d, [1, 120])] from hs2)
  have HB2 := Lib.hid (((But.of_below HBW.out).trans hbut).new HKM.out)
  clear hres hs2 hbut hd HPU HBL HCL HBW HS HB
  obtain ⟨w3, hw3⟩ : ∃ w3, w2.alloc (.cells (noughts 32).toArray 33) = w3 := ⟨_, rfl⟩
  have HW3 := Lib.hid hw3
  have HI3 := Lib.hid (show Blk w3 w2.heap.size 33 (noughts 32) from hw3 ▸ Blk.new w2 33 (noughts 32))
  have HB3 := Lib.hid (show Below w2.heap.size w2 w3 from hw3 ▸ below_alloc (Below.refl _ _) _)
  have HTH := Lib.hid (HI3.out.there 0 (cl d).toArray.size (by rw [List.size_toArray, List.length_map, HDL.out]; simp))
  have HSZ := Lib.hid (size33' HDL.out)
  have HON := Lib.hid (one33 d)
  have HI4 := Lib.hid (ret_id d HDL.out HI3.out HB3.out (Nat.le_refl _))
  clear hw3
  go_upto_region 5 with (first | ((change wpList _ _ _ _ _ (w2.alloc (.cells (noughts 32).toArray 33))); rw [HW3.out]; refine wpList_store_mid rfl 33 (.tmp 2) (.tmp 14) rfl w2.heap.size 0 (cl d).toArray rfl rfl HTH.out HSZ.out HON.out ?_))
  obtain ⟨w4, hw4⟩ : ∃ w4, w3.setCells w2.heap.size 0 (cl d) = w4 := ⟨_, rfl⟩
  rw [hw4] at HI4 ⊢
  have HLD := Lib.hid (HI4.out.1.loads 33 Tryd.isAgg33 (fun W => by rw [List.length_map, HDL.out]; exact Tryd.sizeOf33 W))
  have HB4 := Lib.hid (HB2.out.trans (HI4.out.2.mono HB2.out.size))
  have HS4 := Lib.hid (HS2.out.below HI4.out.2)
  have HG := Lib.hid (get_walk ks km _ d HDL.out w4 HS4.out (fun b hb => by simp [iget] at hb; subst hb; decide))
  clear hw4 HI4 HTH HSZ HON HI3 HB3 HW3 HS2 HB2
  go_wp2_with (with_reducible refine wpList_ld rfl 33 (.tmp 2) rfl ⟨w2.heap.size, 0, none⟩ rfl _ HLD.out ?_)
  refine HG.out.mono ?_
  rintro e w5 ⟨hb5, ⟨h0, _⟩ | ⟨b, v, h0, rfl, hv⟩⟩
  · simp [iget] at h0
  have hbe : [1, 120] = b := by simpa [iget] using h0
  subst hbe
  have HB5 := Lib.hid (HB4.out.trans (hb5.mono HB4.out.size))
  have HS5 := Lib.hid (HS4.out.below hb5)
  have HV := Lib.hid hv
  clear h0 hb5 hv HG HLD HS4 HB4
  obtain ⟨A, c, hve, hc, hC⟩ := HV.out
  have HC := Lib.hid hC
  have HLC := Lib.hid hc
  subst hve
  clear hC hc HV
  simp only [List.length_cons, List.length_nil, Nat.zero_add, Nat.reduceAdd]
  go_wp2_with fail
  refine (num_walk 0 w5).mono ?_
  rintro e w6 ⟨rfl, hd6⟩
  have HB56 := Lib.hid hd6.below
  go_wp2_with fail
  refine (num_walk 0 w6).mono ?_
  rintro e w7 ⟨rfl, hd7⟩
  have HB57 := Lib.hid (HB56.out.trans (hd7.below.mono HB56.out.size))
  clear hd6 hd7
  go_wp2_with fail
  have HBL := Lib.hid (show Below w7.heap.size w7 (w7.alloc (Obj.cells #[Value.int IntKind.u8 1, Value.int IntKind.u8 120] 5)) from below_alloc (Below.refl _ _) _)
  have HB58 := Lib.hid (HB57.out.trans (HBL.out.mono HB57.out.size))
  have HCL := Lib.hid (lit_C w7 [1, 120] (by decide))
  have HEQ := Lib.hid (satchelref0_Eq.calls 10 A c [1, 120] _ 2 [1, 120] true _ (Kd.C_below HC.out HB58.out) HLC.out HCL.out (by decide) eq_120)
  refine HEQ.out.mono ?_
  rintro e w8 ⟨rfl, hd8⟩
  have HB8 := Lib.hid (HB58.out.trans (hd8.below.mono HB58.out.size))
  have HLE := Lib.hid (len_walk ks km _ w8 (HS5.out.below HB8.out))
  clear hd8 HEQ HCL HBL
  go_wp2_with fail
  refine HLE.out.mono ?_
  rintro e w9 ⟨rfl, rfl⟩
  go_wp2_with fail
  go_ret
  exact ⟨rfl, HB5.out.trans (HB8.out.mono HB5.out.size)⟩
end Go.Proofs.YtfbkkcigkpffiaaDoor.St
