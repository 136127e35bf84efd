/- The walks of a store's Remove and Get. -/
import Derived.Test.YtfbkkcigkpffiaaDoorSdK
namespace Go.Proofs.YtfbkkcigkpffiaaDoor.St
open Go.MapKept (heap_set)
open Go Go.Lib Go.RowKit Go.ChangeMaps Go.Proofs.YtfbkkcigkpffiaaDoorW.PrintWords Go.Proofs.YtfbkkcigkpffiaaDoorW.PrintLast Go.Proofs.YtfbkkcigkpffiaaDoorW.PrintMore Go.Proofs.YtfbkkcigkpffiaaDoor.PStoreMany
set_option linter.unusedVariables false
set_option linter.unusedSimpArgs false
theorem kdel_mem {x : By × Value} {k : By} : ∀ {kv : KV}, x ∈ kdel kv k → x ∈ kv
  | [], h => by cases h
  | (a, y) :: r, h => by
    unfold kdel at h
    by_cases e : a = k
    · rw [if_pos e] at h; exact List.mem_cons_of_mem _ h
    · rw [if_neg e] at h
      rcases List.mem_cons.1 h with h | h
      · rw [h]; exact List.mem_cons_self
      · exact List.mem_cons_of_mem _ (kdel_mem h)
set_option maxRecDepth 200000 in
theorem IMap.delete {w : World} {b : Nat} {kv : KV} (h : IMap w b kv) {k : By} (hk : k.length = 32) (ty : TypeId) :
    ∃ o, (Builtin.delete_ #[70, 33] ty #[.map (some b), vId k]).run Tryd.prog w = .ok (.tuple #[]) (setBlock w b o) ∧ IMap (setBlock w b o) b (kdel kv k) := by
  obtain ⟨es, clock, hb, hm, hborn, hnd, h32⟩ := h
  have h1 := check33 hk es.isEmpty w
  rcases find_ix w hk es.toList kv hm h32 with ⟨g1, _, g3, g4⟩ | ⟨j, v0, e, g1, ge, _, gk, g5, _, g7⟩
  · have h2 := (findKey33 w (vId k) es.toList).trans (g4 0)
    refine ⟨.map es clock, ?_, es, clock, (heap_set hb).1, ?_, hborn, hnd, ?_⟩
    · simp [Builtin.delete_, run_underlying Tryd.underlying70, MapKept.run_getObj_map (P := Tryd.prog) hb, h1, h2, MapKept.run_setObj_map (P := Tryd.prog) _ hb, Result.andThen, setBlock]
    · rw [g3]; exact hm
    · rw [g3]; exact h32
  · have h2 := (findKey33 w (vId k) es.toList).trans (g5 0)
    have hj : j < es.size := by
      have := (List.getElem?_eq_some_iff.1 ge).1
      simpa using this
    refine ⟨.map (es.eraseIdx j hj) clock, ?_, _, _, (heap_set hb).1, ?_, ?_, ?_, ?_⟩
    · simp [Builtin.delete_, run_underlying Tryd.underlying70, MapKept.run_getObj_map (P := Tryd.prog) hb, h1, h2, MapKept.run_setObj_map (P := Tryd.prog) _ hb, Result.andThen, setBlock, Array.eraseIdxIfInBounds, hj]
    · rw [Array.toList_eraseIdx]; exact g7
    · intro x hx
      rw [Array.toList_eraseIdx] at hx
      exact hborn x (List.mem_of_mem_eraseIdx hx)
    · rw [Array.toList_eraseIdx]
      exact hnd.sublist ((List.eraseIdx_sublist _ _).map _)
    · intro x hx
      exact h32 x (kdel_mem hx)
set_option maxRecDepth 100000 in
set_option maxHeartbeats 4000000 in
theorem remove_walk (ks km : Nat) (its : Its) (d : By) (hd : d.length = 32) (w : World) (h : StoreAt w ks km its) :
    Calls Tryd.prog 17 #[.pointer (some ⟨ks, 0, none⟩), vId d] w fun e w' => e = .returned (.bool (iget its d).isSome) ∧ StoreAt w' ks km (idel its d) ∧ But km w w' := by
  obtain ⟨w1, hw1⟩ : ∃ w1, w.alloc (.cells (cl d).toArray 33) = w1 := ⟨_, rfl⟩
  have HW1 := Lib.hid hw1
  have HDL := Lib.hid hd
  have HB1 := Lib.hid (show Below w.heap.size w w1 from hw1 ▸ below_alloc (Below.refl _ _) _)
  have HI := Lib.hid (show Blk w1 w.heap.size 33 (cl d) from hw1 ▸ Blk.new w 33 (cl d))
  have HS := Lib.hid h
  have HS1 := Lib.hid (h.below HB1.out)
  have HH := Lib.hid (has_walk ks km its d hd w1 HS1.out)
  have HL1 := Lib.hid (HI.out.loads 33 Tryd.isAgg33 (fun W => by rw [List.length_map, hd]; exact Tryd.sizeOf33 W))
  obtain ⟨x, hx⟩ : ∃ x, (iget its d).isSome = x := ⟨_, rfl⟩
  rw [hx] at HH ⊢
  clear h hw1 hx hd
  go_enter Tryd.func17, Tryd.ntmps17
  go_upto_region 1 with (fail)
  rw [HW1.out]
  go_wp2_with (with_reducible refine wpList_ld rfl 33 (.tmp 3) rfl ⟨w.heap.size, 0, none⟩ rfl _ HL1.out ?_)
  refine HH.out.mono ?_
  rintro e w2 ⟨rfl, hb2⟩
  have HB2 := Lib.hid (HB1.out.trans (hb2.mono HB1.out.size))
  have HI2 := Lib.hid (HI.out.below hb2)
  have HS2 := Lib.hid (HS1.out.below hb2)
  clear hb2 HH HL1 HW1
  obtain ⟨kv, hm, hs⟩ := HS.out.map
  have HM := Lib.hid hm
  have HSM := Lib.hid hs
  have HM2 := Lib.hid (hm.below HB2.out)
  have HKM := Lib.hid (show w.heap.size ≠ km from HM2.out.ne (HI2.out.cell 0 |>.trans (show (cl d)[0]? = some ((cl d)[0]'(by rw [List.length_map, HDL.out]; decide)) from List.getElem?_eq_getElem _)))
  clear hm hs
  go_upto_region 2 with (fail)
  have HSX := Lib.hid (fun w' (hb : But km w2 w') => (show w'.cell? ⟨ks, 0, none⟩ = some (.map (some km)) ∧ w'.rangeAt w.heap.size 0 (cl d) from ⟨(HS2.out.blk.but hb (HM2.out.ne (HS2.out.blk.cell 0))).cell 0, fun j v hv => by rw [Nat.zero_add, (HI2.out.but hb HKM.out).cell j]; exact hv⟩))
  have hu33 := Tryd.underlying33
  have hi33 : (Tryd.prog.info? 33).map (·.size) = some (cl d).length := by rw [List.length_map, HDL.out]; exact size33
  go_region_held3 (fun w' => w'.cell? ⟨ks, 0, none⟩ = some (.map (some km)) ∧ w'.rangeAt w.heap.size 0 (cl d))
    (first | assumption | exact HSX.out _ (But.of_below (pw_below_drewN (Below.refl _ _) 1)) | exact HSX.out _ (But.of_below (by assumption)))
    (first | (obtain ⟨ob, hrun, r1⟩ := IMap.delete (w := w2.drew) (HM2.out.below (below_drew (Below.refl _ _))) HDL.out 0; rw [show Sem.run Tryd.prog (Builtin.delete_ #[70, 33] 0 #[Value.map (some km), Value.agg (cl d).toArray]) w2.drew = _ from hrun]; have HR9 := Lib.hid r1; have HBE := Lib.hid ((But.of_below (show Below w2.heap.size w2 w2.drew from below_drew (Below.refl _ w2))).trans (but_put (HM2.out.below (below_drew (Below.refl _ _))) ob)); have hS9 := HSX.out _ HBE.out))
  obtain ⟨wE, hwE⟩ : ∃ wE, setBlock w2.drew km ob = wE := ⟨_, rfl⟩
  rw [hwE] at HR9 HBE ⊢
  have HBW := Lib.hid ((But.of_below (k := km) HB2.out).trans HBE.out)
  have HST := Lib.hid (show StoreAt wE ks km (idel its d) from ⟨HS.out.blk.but HBW.out (HM.out.ne (HS.out.blk.cell 0)), _, HR9.out, (HSM.out.imp (fun _ _ q => IsB.but HM.out HBW.out q)).del d⟩)
  clear hwE hS9 HSX hu33 hi33 hrun r1
  go_upto_region 3 with fail
  go_wp2_with fail
  go_ret
  exact ⟨rfl, HST.out, HBW.out⟩
set_option maxRecDepth 100000 in
set_option maxHeartbeats 4000000 in
theorem get_walk (ks km : Nat) (its : Its) (d : By) (hd : d.length = 32) (w : World) (h : StoreAt w ks km its) (hl : ∀ b, iget its d = some b → b.length ≤ 1000000000) :
    Calls Tryd.prog 19 #[.pointer (some ⟨ks, 0, none⟩), vId d] w fun e w' => Below w.heap.size w w' ∧ ((iget its d = none ∧ e = .returned (.tuple #[.slice none 0 0, .int .i64 41])) ∨ ∃ b v, iget its d = some b ∧ e = .returned (.tuple #[v, .int .i64 0]) ∧ IsB w' v b) := by
  obtain ⟨w1, hw1⟩ : ∃ w1, w.alloc (.cells (cl d).toArray 33) = w1 := ⟨_, rfl⟩
  have HW1 := Lib.hid hw1
  have HB1 := Lib.hid (show Below w.heap.size w w1 from hw1 ▸ below_alloc (Below.refl _ _) _)
  have HI := Lib.hid (show Blk w1 w.heap.size 33 (cl d) from hw1 ▸ Blk.new w 33 (cl d))
  have HS := Lib.hid (h.below HB1.out)
  have c0 : ∀ q : Cls w1, q.at.cell? ⟨ks, 0, none⟩ = some (.map (some km)) := fun q => q.cell (HS.out.blk.cell 0)
  have HL1 := Lib.hid (fun w' (hb : Below w1.heap.size w1 w') => (HI.out.below hb).loads 33 Tryd.isAgg33 (fun W => by rw [List.length_map, hd]; exact Tryd.sizeOf33 W))
  obtain ⟨v, x, hv, hcase⟩ : ∃ v x, (∀ w', Below w1.heap.size w1 w' → (Instr.lookup 70 (.map (some km)) (vId d) true).run Tryd.prog w' = .ok (.tuple #[v, .bool x]) w') ∧ ((iget its d = none ∧ x = false) ∨ ∃ b A c, iget its d = some b ∧ x = true ∧ v = .slice A b.length c ∧ b.length ≤ c ∧ Kd.C kB w1 A b.length b) := by
    obtain ⟨kv, hm, hs⟩ := HS.out.map
    refine ⟨(kget kv d).getD (.slice none 0 0), (kget kv d).isSome, fun w' hb => ?_, ?_⟩
    · rw [(hm.below hb).lookup hd true]; rfl
    · rcases hs.get d with ⟨h1, h2⟩ | ⟨v, b, h1, h2, A, c, h3, h4, h5⟩
      · rw [h2]; exact .inl ⟨h1, rfl⟩
      · rw [h2]; exact .inr ⟨b, A, c, h1, rfl, h3, h4, h5⟩
  have HLK := Lib.hid hv
  have HCA := Lib.hid hcase
  have HL := Lib.hid hl
  clear h hw1 hv hcase hl
  go_enter Tryd.func19, Tryd.ntmps19
  go_upto_region 1 with (fail)
  rw [HW1.out]
  refine wp_region_cls (by kernel_rfl) (by kernel_rfl) ?_
  repeat (first | go_big_quiet_skip | (go_big_quiet_want; refine quiet_ld 33 (.tmp 3) rfl ⟨w.heap.size, 0, none⟩ rfl (vId d) HL1.out ?_; (try simp only [Act.put, List.setIfInBounds_toArray, List.set_cons_zero, List.set_cons_succ]); go_big_quiet_on) | (go_big_quiet_want; refine quiet_look 70 (.tmp 12) (.tmp 13) true rfl (.map (some km)) (vId d) rfl rfl (.tuple #[v, .bool x]) HLK.out ?_; (try simp only [Act.put, List.setIfInBounds_toArray, List.set_cons_zero, List.set_cons_succ]); go_big_quiet_on) | go_big_quiet_step (fail))
  refine wpQuiet_nil ?_
  rintro wy ⟨q, rfl⟩
  have HB := Lib.hid (HB1.out.trans (q.below.mono HB1.out.size))
  have HBQ := Lib.hid q.below
  obtain ⟨w8, hw8⟩ : ∃ w8, q.at = w8 := ⟨_, rfl⟩
  rw [hw8] at HB HBQ ⊢
  clear c0 hw8 q HL1 HLK
  rcases HCA.out with ⟨hg, hx⟩ | ⟨b, A, c, hg, hx, hveq, hlc, hC⟩
  · subst hx
    have HG := Lib.hid hg
    clear hg
    go_wp2_with fail
    exact bodyPost_ret (v := .tuple #[.slice none 0 0, .int .i64 41]) (results_list (rs := [.tmp 4, .tmp 5]) rfl (by simp) (.tmp (.tmp .nil))) rfl ⟨HB.out, .inl ⟨HG.out, rfl⟩⟩
  · have HCL := Lib.hid (clone_walk b A c w8 (Kd.C_below hC HBQ.out) (HL.out b hg))
    subst hveq
    subst hx
    have HG := Lib.hid hg
    clear hg hC hlc
    obtain ⟨N, hN⟩ : ∃ N, b.length = N := ⟨_, rfl⟩
    rw [hN] at HCL
    simp only [hN]
    clear hN
    go_wp2_with fail
    refine HCL.out.mono ?_
    rintro e w9 ⟨cv, rfl, hcv, _, hb9⟩
    have HB9 := Lib.hid (HB.out.trans (hb9.mono HB.out.size))
    have HCV := Lib.hid hcv
    clear hcv hb9
    go_wp2_with fail
    exact bodyPost_ret (v := .tuple #[cv, .int .i64 0]) (results_list (rs := [.tmp 4, .tmp 5]) rfl (by simp) (.tmp (.tmp .nil))) rfl ⟨HB9.out, .inr ⟨b, cv, HG.out, rfl, HCV.out⟩⟩
end Go.Proofs.YtfbkkcigkpffiaaDoor.St
