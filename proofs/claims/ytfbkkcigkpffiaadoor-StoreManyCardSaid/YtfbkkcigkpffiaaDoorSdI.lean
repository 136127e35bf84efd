/- The walk of object.Parse at a blob's encoding. -/
import Derived.Test.YtfbkkcigkpffiaaDoorSdH
namespace Go.Proofs.YtfbkkcigkpffiaaDoor.St
open Go Go.Lib Go.RowKit Go.ChangeMaps Go.Proofs.YtfbkkcigkpffiaaDoorW.PrintWords Go.Proofs.YtfbkkcigkpffiaaDoorW.PrintLast Go.Proofs.YtfbkkcigkpffiaaDoorW.PrintMore Go.Proofs.YtfbkkcigkpffiaaDoor.PStoreMany
set_option linter.unusedVariables false
set_option linter.unusedSimpArgs false
theorem check_blob (A : Option Addr) (n c : Nat) (w : World) : (method 279 104 (.slice A n c) "satchel/object.check").run Tryd.prog w = .ok (102, .slice A n c) w := by kernel_rfl
set_option maxRecDepth 100000 in
set_option maxHeartbeats 4000000 in
theorem blobcheck_walk (v : Value) (w : World) : Calls Tryd.prog 102 #[v] w fun e w' => e = .returned (.int .i64 0) ∧ w = w' := by
  go_enter Tryd.func102, Tryd.ntmps102
  go_wp2_with fail
  go_ret
  exact ⟨rfl, rfl⟩
set_option maxRecDepth 100000 in
set_option maxHeartbeats 4000000 in
theorem parse_walk (r : List Int) (A : Option Addr) (c : Nat) (w : World) (hC : Kd.C kB w A (1 :: r).length (1 :: r)) (hc : (1 :: r).length ≤ c) (hl : (1 :: r).length ≤ 65536) (he : w.cell? ⟨3, 0, none⟩ = some (.int .i64 0)) :
    Calls Tryd.prog 41 #[.slice A (1 :: r).length c] w fun e w' => ∃ g n, e = .returned (.tuple #[.iface 104 (.slice (some ⟨g, 0, none⟩) n n), .int .i64 0]) ∧ Below w.heap.size w w' := by
  have HRD := Lib.hid (read_walk (1 :: r) A c w hC hc (by omega))
  obtain ⟨b, hb⟩ : ∃ b, b = 1 :: r := ⟨_, rfl⟩
  have HBB := Lib.hid hb
  rw [← hb] at HRD hc hl ⊢
  obtain ⟨N, hN⟩ : ∃ N, b.length = N := ⟨_, rfl⟩
  have HN := Lib.hid hN
  rw [hN] at HRD hc hl ⊢
  have HE := Lib.hid he
  clear hC hb hN he
  go_enter Tryd.func41, Tryd.ntmps41
  go_wp2_with fail
  refine HRD.out.mono ?_
  rintro e w1 ⟨k, A1, c1, rfl, hk, hr, hb⟩
  have HR1 := Lib.hid hr
  have HB1 := Lib.hid hb
  have HK := Lib.hid hk
  have HU := Lib.hid (u8_walk k A1 c1 r w1 (HBB.out ▸ hr) (by rw [← HBB.out, HN.out]; omega))
  clear hk hr hb
  go_wp2_with fail
  refine HU.out.mono ?_
  rintro e w2 ⟨rfl, hr, hb⟩
  have HR2 := Lib.hid (show RdAt w2 k A1 c1 b 1 0 from HBB.out ▸ hr)
  have HB2 := Lib.hid hb
  have hN0 : 1 ≤ N := by rw [← HN.out, HBB.out]; simp
  have HLF := Lib.hid (left_walk k A1 c1 b 1 0 w2 HR2.out (by rw [HN.out]; exact hN0))
  rw [HN.out] at HLF
  obtain ⟨d, hd⟩ : ∃ d, N - 1 = d := ⟨_, rfl⟩
  rw [hd] at HLF
  have hd1 : 1 + d = N := by omega
  clear hr hb HU hd
  go_wp2_with fail
  refine HLF.out.mono ?_
  rintro e w3 ⟨rfl, hb⟩
  have HB3 := Lib.hid hb
  have HR3 := Lib.hid (HR2.out.below hb)
  have HRW := Lib.hid (raw_walk k A1 c1 b 1 d w3 HR3.out (by rw [HN.out]; omega) (by rw [HN.out]; omega))
  clear hb
  go_wp2_with fail
  refine HRW.out.mono ?_
  rintro e w4 ⟨g, rfl, hg, hbk, hr, hb⟩
  have HR4 := Lib.hid (show RdAt w4 k A1 c1 b b.length 0 from by rw [HN.out, ← hd1]; exact hr)
  have HB4 := Lib.hid hb
  have HW4 := Lib.hid (show Below w.heap.size w w4 from by
    have b2 : Below w.heap.size w1 w2 := HB2.out.below_of HK.out HB1.out.size
    have b3 : Below w.heap.size w2 w3 := HB3.out.mono (by have := b2.size; have := HB1.out.size; omega)
    have b4 : Below w.heap.size w3 w4 := HB4.out.below_of HK.out (by have := b2.size; have := b3.size; have := HB1.out.size; omega)
    exact ((HB1.out.trans b2).trans b3).trans b4)
  have HEN := Lib.hid (end_walk k A1 c1 b w4 HR4.out (by rw [HN.out]; omega) (pw_cell_below HW4.out HE.out))
  clear hg hbk hr hb HRW HLF
  go_wp2_with fail
  refine HEN.out.mono ?_
  rintro e w5 ⟨rfl, hb⟩
  have HB5 := Lib.hid (HW4.out.trans (hb.mono HW4.out.size))
  clear hb HEN
  have hm := fun W => check_blob (some ⟨g, 0, none⟩) d d W
  go_wp2_with (go_at_call 102; refine (blobcheck_walk _ _).mono ?_; rintro e w6 ⟨rfl, rfl⟩)
  go_ret2
  exact ⟨g, d, rfl, HB5.out⟩
/-- A blob as an object. -/
noncomputable def objC (v : Value) : List Value := (Tryd.zeroCells80.toList.set 0 (.int .i64 1)).set 1 v
theorem zero80 : Tryd.zeroCells80.toList.length = 76 := by kernel_rfl
theorem zero80one : Tryd.zeroCells80.toList.all (·.oneCell') = true := by kernel_rfl
theorem size80 : (Tryd.prog.info? 80).map (·.size) = some 76 := by kernel_rfl
theorem objC_len (v : Value) : (objC v).length = 76 := by unfold objC; rw [List.length_set, List.length_set, zero80]
theorem objC_one (v : Value) (hv : v.oneCell' = true) : ∀ u ∈ objC v, u.oneCell' = true := fun u hu => by
  unfold objC at hu
  rcases List.mem_or_eq_of_mem_set hu with h | rfl
  · rcases List.mem_or_eq_of_mem_set h with h | rfl
    · exact List.all_eq_true.1 zero80one u h
    · rfl
  · exact hv
/-- A result of the object's type that is stored in a variable of its own. -/
theorem ret80 {w w4 : World} {r : Nat} (cs : List Value) (hl : cs.length = 76) (hr : Blk w4 r 80 Tryd.zeroCells80.toList) (hw : Below w.heap.size w w4) (hk : w.heap.size ≤ r) :
    Blk (w4.setCells r 0 cs) r 80 cs ∧ Below w.heap.size w (w4.setCells r 0 cs) := by
  refine ⟨?_, (But.setCells (k := r) cs 0 w4 (But.of_below hw)).new hk⟩
  have h9 := Blk.setCells cs 0 w4 _ hr
  rwa [sets_all _ _ (by rw [hl, zero80])] at h9
theorem new80 (w : World) : Blk (w.alloc (.cells Tryd.zeroCells80 80)) w.heap.size 80 Tryd.zeroCells80.toList := by
  have h9 := Blk.new w 80 Tryd.zeroCells80.toList
  rwa [Array.toArray_toList] at h9
theorem objArr (v : Value) : Value.agg ((Tryd.zeroCells80.setIfInBounds 0 (.int .i64 1)).setIfInBounds 1 v) = .agg (objC v).toArray := by
  congr 1
set_option maxRecDepth 100000 in
set_option maxHeartbeats 4000000 in
theorem object_walk (A : Option Addr) (n c : Nat) (w : World) :
    Calls Tryd.prog 45 #[.iface 104 (.slice A n c)] w fun e w' => e = .returned (.agg (objC (.slice A n c)).toArray) ∧ Below w.heap.size w w' := by
  have hta : ∀ W, (Instr.typeAssert (.iface 104 (.slice A n c)) 88 104 true).run Tryd.prog W = .ok (.tuple #[.slice A n c, .bool true]) W := fun W => by kernel_rfl
  obtain ⟨w1, hw1⟩ : ∃ w1, w.alloc (.cells Tryd.zeroCells80 80) = w1 := ⟨_, rfl⟩
  have HW1 := Lib.hid hw1
  have HR := Lib.hid (show Blk w1 w.heap.size 80 Tryd.zeroCells80.toList from hw1 ▸ new80 w)
  have HB := Lib.hid (show Below w.heap.size w w1 from hw1 ▸ below_alloc (Below.refl _ _) _)
  have HTH := Lib.hid (HR.out.there 0 (objC (.slice A n c)).toArray.size (by rw [List.size_toArray, objC_len, zero80]; decide))
  have HSZ := Lib.hid (show (Tryd.prog.info? 80).map (·.size) = some (objC (.slice A n c)).toArray.size from by rw [List.size_toArray, objC_len]; exact size80)
  have HON := Lib.hid (all_oneCell_toArray (objC_one (.slice A n c) rfl))
  have HF := Lib.hid (ret80 (objC (.slice A n c)) (objC_len _) HR.out HB.out (Nat.le_refl _))
  clear hw1
  go_enter Tryd.func45, Tryd.ntmps45
  go_upto_region 1 with (fail)
  rw [HW1.out]
  go_wp2_with (refine wpList_store_mid rfl 80 (.tmp 2) (.tmp 12) rfl w.heap.size 0 (objC (.slice A n c)).toArray rfl (objArr _) HTH.out HSZ.out HON.out ?_)
  exact bodyPost_ret (v := .agg (objC (.slice A n c)).toArray) (results_single rfl (.cell w.heap.size 80 (objC (.slice A n c)).toArray (0, 0) _ rfl HF.out.1 Tryd.underlying80 rfl HSZ.out .nil)) rfl ⟨rfl, HF.out.2⟩
set_option maxRecDepth 100000 in
set_option maxHeartbeats 4000000 in
/-- Parse takes a blob. -/
theorem Parse_walk (r : List Int) (A : Option Addr) (c : Nat) (w : World) (hC : Kd.C kB w A (1 :: r).length (1 :: r)) (hc : (1 :: r).length ≤ c) (hl : (1 :: r).length ≤ 65536) (he : w.cell? ⟨3, 0, none⟩ = some (.int .i64 0)) :
    Calls Tryd.prog 33 #[.slice A (1 :: r).length c] w fun e w' => ∃ v, v.oneCell' = true ∧ e = .returned (.tuple #[.agg (objC v).toArray, .int .i64 0]) ∧ Below w.heap.size w w' := by
  obtain ⟨w1, hw1⟩ : ∃ w1, w.alloc (.cells Tryd.zeroCells80 80) = w1 := ⟨_, rfl⟩
  have HW1 := Lib.hid hw1
  have HR := Lib.hid (show Blk w1 w.heap.size 80 Tryd.zeroCells80.toList from hw1 ▸ new80 w)
  have HB := Lib.hid (show Below w.heap.size w w1 from hw1 ▸ below_alloc (Below.refl _ _) _)
  have HPW := Lib.hid (parse_walk r A c w1 (Kd.C_below hC HB.out) hc hl (pw_cell_below HB.out he))
  obtain ⟨N, hN⟩ : ∃ N, (1 :: r).length = N := ⟨_, rfl⟩
  rw [hN] at HPW ⊢
  clear hw1 hC hc hl he hN
  go_enter Tryd.func33, Tryd.ntmps33
  go_upto_region 1 with (fail)
  rw [HW1.out]
  go_wp2_with fail
  refine HPW.out.mono ?_
  rintro e w2 ⟨g, n, rfl, hb⟩
  have HB2 := Lib.hid (HB.out.trans (hb.mono HB.out.size))
  have HR2 := Lib.hid (HR.out.below hb)
  have HOB := Lib.hid (object_walk (some ⟨g, 0, none⟩) n n w2)
  clear hb
  go_wp2_with fail
  refine HOB.out.mono ?_
  rintro e w3 ⟨rfl, hb⟩
  obtain ⟨v, hv⟩ : ∃ v, v = Value.slice (some ⟨g, 0, none⟩) n n := ⟨_, rfl⟩
  have HONE := Lib.hid (show v.oneCell' = true from by rw [hv]; rfl)
  rw [← hv]
  have HB3 := Lib.hid (HB2.out.trans (hb.mono HB2.out.size))
  have HR3 := Lib.hid (HR2.out.below hb)
  have HTH := Lib.hid (HR3.out.there 0 (objC v).toArray.size (by rw [List.size_toArray, objC_len, zero80]; decide))
  have HSZ := Lib.hid (show (Tryd.prog.info? 80).map (·.size) = some (objC v).toArray.size from by rw [List.size_toArray, objC_len]; exact size80)
  have HON := Lib.hid (all_oneCell_toArray (objC_one v HONE.out))
  have HF := Lib.hid (ret80 (objC v) (objC_len _) HR3.out HB3.out (Nat.le_refl _))
  clear hb hv
  go_wp2_with (refine wpList_store_mid rfl 80 (.tmp 2) (.tmp 16) rfl w.heap.size 0 (objC v).toArray rfl rfl HTH.out HSZ.out HON.out ?_)
  exact bodyPost_ret (v := .tuple #[.agg (objC v).toArray, .int .i64 0]) (results_list (rs := [.cell 2 80, .tmp 3]) rfl (by simp) (.cell w.heap.size 80 (objC v).toArray (0, 0) _ rfl HF.out.1 Tryd.underlying80 rfl HSZ.out (.tmp .nil))) rfl ⟨v, HONE.out, rfl, HF.out.2⟩
end Go.Proofs.YtfbkkcigkpffiaaDoor.St
