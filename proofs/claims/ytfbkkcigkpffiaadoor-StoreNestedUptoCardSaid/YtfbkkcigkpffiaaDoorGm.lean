/- The walk of a store's Copy. -/
import Derived.Test.YtfbkkcigkpffiaaDoorGl
import Derived.Test.YtfbkkcigkpffiaaDoorGt
namespace Go.Proofs.YtfbkkcigkpffiaaDoor.St
open Go Go.Lib Go.RowKit Go.ChangeMaps Go.Proofs.YtfbkkcigkpffiaaDoorW.PrintWords Go.Proofs.YtfbkkcigkpffiaaDoorW.PrintLast Go.Proofs.YtfbkkcigkpffiaaDoorW.PrintMore Go.Proofs.YtfbkkcigkpffiaaDoor.PStoreMany
open Go.MapKept (heap_set)
set_option linter.unusedVariables false
set_option linter.unusedSimpArgs false
theorem Same.perm {w : World} {a b : KV} (hp : a.Perm b) : ∀ {its : Its}, Same w b its → ∃ its', its'.Perm its ∧ Same w a its' := by
  induction hp with
  | nil => exact fun {its} h => ⟨its, List.Perm.refl _, h⟩
  | cons x h ih =>
    intro its hs
    obtain ⟨k, v⟩ := x
    match its, hs with
    | (d, b) :: r, hs =>
      obtain ⟨its', p, s⟩ := ih hs.2.2
      exact ⟨(d, b) :: its', p.cons _, hs.1, hs.2.1, s⟩
  | swap x y l =>
    intro its hs
    obtain ⟨k, v⟩ := x
    obtain ⟨k', v'⟩ := y
    match its, hs with
    | (d, b) :: (d', b') :: r, hs => exact ⟨(d', b') :: (d, b) :: r, List.Perm.swap _ _ _, hs.2.2.1, hs.2.2.2.1, hs.1, hs.2.1, hs.2.2.2.2⟩
  | trans h1 h2 ih1 ih2 =>
    intro its hs
    obtain ⟨i2, p2, s2⟩ := ih2 hs
    obtain ⟨i1, p1, s1⟩ := ih1 s2
    exact ⟨i1, p1.trans p2, s1⟩
theorem iget_none {d : By} : ∀ {its : Its}, iget its d = none ↔ d ∉ its.map (·.1)
  | [] => by simp [iget]
  | (k, x) :: r => by
    unfold iget
    by_cases e : k = d
    · rw [if_pos e]; simp [e]
    · rw [if_neg e, iget_none]; simp [show ¬ d = k from fun q => e q.symm]
theorem Uq.nodup : ∀ {its : Its}, Uq its → (its.map (·.1)).Nodup
  | [], _ => List.nodup_nil
  | (k, x) :: r, h => by
    rw [List.map_cons, List.nodup_cons]
    exact ⟨iget_none.1 h.1, h.2.nodup⟩
theorem Uq.of_nodup : ∀ {its : Its}, (its.map (·.1)).Nodup → Uq its
  | [], _ => trivial
  | (k, x) :: r, h => by
    rw [List.map_cons, List.nodup_cons] at h
    exact ⟨iget_none.2 h.1, Uq.of_nodup h.2⟩
theorem Uq.perm {a b : Its} (h : Uq b) (hp : a.Perm b) : Uq a := Uq.of_nodup ((hp.map _).nodup_iff.2 h.nodup)
theorem iget_of_mem {d : By} {b : List Int} : ∀ {its : Its}, Uq its → (d, b) ∈ its → iget its d = some b
  | (k, x) :: r, hu, h => by
    unfold iget
    rcases List.mem_cons.1 h with h | h
    · injection h with h1 h2
      subst h1; subst h2
      rw [if_pos rfl]
    · by_cases e : k = d
      · subst e
        have := iget_none.1 hu.1
        exact absurd (List.mem_map.2 ⟨_, h, rfl⟩) this
      · rw [if_neg e]; exact iget_of_mem hu.2 h
theorem mem_of_iget {d : By} {b : List Int} : ∀ {its : Its}, iget its d = some b → (d, b) ∈ its
  | (k, x) :: r, h => by
    unfold iget at h
    by_cases e : k = d
    · rw [if_pos e] at h
      injection h with h
      subst e; subst h
      exact List.mem_cons_self
    · rw [if_neg e] at h
      exact List.mem_cons_of_mem _ (mem_of_iget h)
theorem iget_perm {a b : Its} (hp : a.Perm b) (hu : Uq b) (d : By) : iget a d = iget b d := by
  cases h : iget b d with
  | some x => exact iget_of_mem (hu.perm hp) (hp.mem_iff.2 (mem_of_iget h))
  | none => exact iget_none.2 (fun hm => iget_none.1 h ((hp.map (·.1)).mem_iff.1 hm))
theorem kput_fresh {k : By} {v : Value} : ∀ {kv : KV}, k ∉ kv.map (·.1) → kput kv k v = kv ++ [(k, v)]
  | [], _ => rfl
  | (a, x) :: r, h => by
    unfold kput
    rw [List.map_cons, List.mem_cons, not_or] at h
    rw [if_neg (fun e => h.1 e.symm), kput_fresh h.2]
    rfl
set_option maxRecDepth 100000 in
set_option maxHeartbeats 4000000 in
theorem scopy_walk (ks km : Nat) (its : Its) (hu : Uq its) (w : World) (h : StoreAt w ks km its) (hl : its.length ≤ 1000000000) :
    Calls Tryd.prog 22 #[.pointer (some ⟨ks, 0, none⟩)] w fun e w' => ∃ ks' km' its', e = .returned (.pointer (some ⟨ks', 0, none⟩)) ∧ its'.Perm its ∧ StoreAt w' ks' km' its' ∧ w.heap.size ≤ ks' ∧ w.heap.size ≤ km' ∧ Below w.heap.size w w' := by
  obtain ⟨R, hR⟩ : ∃ R : Ending → World → Prop, (fun e w' => ∃ ks' km' its', e = .returned (.pointer (some ⟨ks', 0, none⟩)) ∧ its'.Perm its ∧ StoreAt w' ks' km' its' ∧ w.heap.size ≤ ks' ∧ w.heap.size ≤ km' ∧ Below w.heap.size w w') = R := ⟨_, rfl⟩
  rw [hR]
  have HR := Lib.hid hR
  obtain ⟨kv, hm, hs⟩ := h.map
  have HM := Lib.hid hm
  have HSM := Lib.hid hs
  have HBK := Lib.hid h.blk
  have HND := Lib.hid (show (kv.map (·.1)).Nodup from by rw [keys_of hs]; exact hu.nodup)
  have HKL := Lib.hid (show kv.length ≤ 1000000000 from by rw [hs.len]; exact hl)
  have HK32 := Lib.hid (show ∀ x ∈ kv, x.1.length = 32 from by obtain ⟨es, ck, _, _, _, _, h32⟩ := hm; exact h32)
  have HKM := Lib.hid (show km < w.heap.size from hm.lt)
  have HNW := Lib.hid (snew_walk w)
  clear hm hs h hu hl hR
  go_enter Tryd.func22, Tryd.ntmps22
  go_wp2_with fail
  refine HNW.out.mono ?_
  rintro e w2 ⟨ks', km', rfl, hks, hkm, hs, hb⟩
  have HKS' := Lib.hid hks
  have HKM' := Lib.hid hkm
  have HB2 := Lib.hid hb
  have HBK2 := Lib.hid hs.blk
  have HM2 := Lib.hid (show IMap w2 km' [] from by
    obtain ⟨kv0, hm0, hs0⟩ := hs.map
    cases kv0 with
    | nil => exact hm0
    | cons x r => exact hs0.elim)
  have c0 : w2.cell? ⟨ks, 0, none⟩ = some (.map (some km)) := (HBK.out.below hb).cell 0
  obtain ⟨o, hrun, hrng⟩ := run_range (P := Tryd.prog) kv (HM.out.below hb) Tryd.underlying70
  have HRNG := Lib.hid hrng
  have HNE' := Lib.hid (show ks' ≠ km' from HM2.out.ne (hs.blk.cell 0))
  clear hks hkm hs hb hrng HNW
  go_upto_block 0 with (fail)
  obtain ⟨w3, hw3⟩ : ∃ w3, w2.alloc o = w3 := ⟨_, rfl⟩
  have HB3 := Lib.hid (show Below w2.heap.size w2 w3 from hw3 ▸ below_alloc (Below.refl _ _) _)
  rw [hw3] at HRNG ⊢
  have HS3 := Lib.hid (show w2.heap.size < w3.heap.size from by rw [← hw3]; simp)
  have HKM2 := Lib.hid (show km' < w2.heap.size from HM2.out.lt)
  clear hw3 hrun c0
  go_wp2_with fail
  go_loopg [] kv.length (fun gf wr => ∃ (left done : KV), left.length ≤ gf ∧ (done ++ left).Perm kv ∧ Blk wr ks' 72 [.map (some km')] ∧ IMap wr km' done ∧ Below w.heap.size w wr ∧ w2.heap.size < wr.heap.size ∧ Rng wr km w2.heap.size left)
  case atStart => exact ⟨kv, [], Nat.le_refl _, List.Perm.refl _, HBK2.out.below HB3.out, HM2.out.below HB3.out, HB2.out.trans (HB3.out.mono HB2.out.size), HS3.out, HRNG.out⟩
  case round =>
    obtain ⟨left, done, hgf, hdp, hbk, him, hbw, hsz, hrg⟩ := hrel
    have hne : km ≠ w2.heap.size := by have := HKM.out; have := HB2.out.size; omega
    rcases run_next (P := Tryd.prog) left hrg hne 0 with ⟨rfl, hnx⟩ | ⟨x, left', w4, o1, hpx, hw4, hnx, hrg1, hcur⟩
    · rw [List.append_nil] at hdp
      have HDP := Lib.hid hdp
      have HBK := Lib.hid hbk
      have HIM := Lib.hid him
      have HBW := Lib.hid hbw
      clear hdp hbk him hbw hrg hgf
      go_wp2_with fail
      rw [← HR.out]
      obtain ⟨its', hp, hs'⟩ := Same.perm HDP.out HSM.out
      exact ⟨ks', km', its', rfl, hp, ⟨HBK.out, _, HIM.out, hs'.imp (fun v b hv => hv.below HBW.out)⟩, HKS'.out, HKM'.out, HBW.out⟩
    · obtain ⟨d, v⟩ := x
      have hdp' : ((done ++ [(d, v)]) ++ left').Perm kv := by
        refine List.Perm.trans ?_ hdp
        rw [List.append_assoc]
        exact hpx.symm.append_left done
      have HDL := Lib.hid (show d.length = 32 from HK32.out (d, v) (hdp'.subset (by simp)))
      have HFR := Lib.hid (show kput done d v = done ++ [(d, v)] from kput_fresh (fun hm => by
        have h1 := ((hdp'.map (·.1)).nodup_iff).2 HND.out
        rw [List.map_append, List.map_append] at h1
        have h2 := (List.nodup_append.1 (List.nodup_append.1 h1).1).2.2 d hm d (by simp)
        exact h2 rfl))
      have hB4 := below_setBlock (o := o1) (below_either hbw hw4) HB2.out.size
      have hent := run_entry (P := Tryd.prog) (d, v) hcur
      have hks2 : ks' ≠ w2.heap.size := fun e => by have := HBK2.out.lt; omega
      have hkm2 : km' ≠ w2.heap.size := by have := HKM2.out; omega
      have hold : ∀ k, k ≠ w2.heap.size → (setBlock w4 w2.heap.size o1).heap[k]? = wr.heap[k]? := fun k hk => (set_other hk).trans (by rcases hw4 with rfl | rfl <;> rfl)
      have hbk4 : Blk (setBlock w4 w2.heap.size o1) ks' 72 [.map (some km')] := (hold ks' hks2).trans hbk
      have him4 : IMap (setBlock w4 w2.heap.size o1) km' done := him.of_block (hold km' hkm2)
      have hsz4 : w2.heap.size < (setBlock w4 w2.heap.size o1).heap.size := by
        unfold setBlock; simp
        rcases hw4 with rfl | rfl
        · exact hsz
        · exact hsz
      obtain ⟨W2, hW2⟩ : ∃ W2, setBlock w4 w2.heap.size o1 = W2 := ⟨_, rfl⟩
      rw [hW2] at hnx hent hB4 hrg1 hsz4 hbk4 him4
      replace hent : (Instr.entry (.pointer (some ⟨w2.heap.size, 0, none⟩))).run Tryd.prog W2 = .ok (.tuple #[vId d, v]) W2 := hent
      replace hnx : (Instr.next (.pointer (some ⟨w2.heap.size, 0, none⟩)) false 0).run Tryd.prog wr = .ok (.tuple #[.bool true, vId d, v]) W2 := hnx
      have HDP := Lib.hid hdp'
      have HB4 := Lib.hid hB4
      have HRG := Lib.hid hrg1
      have HBK4 := Lib.hid hbk4
      have HIM4 := Lib.hid him4
      have HSZ4 := Lib.hid hsz4
      have hll := hpx.length_eq
      rw [List.length_cons] at hll
      have HLL := Lib.hid hll
      have HGF := Lib.hid hgf
      have HNE := Lib.hid hne
      obtain ⟨w5, hw5⟩ : ∃ w5, W2.alloc (.cells (noughts 32).toArray 33) = w5 := ⟨_, rfl⟩
      have HW5 := Lib.hid hw5
      have HI5 := Lib.hid (show Blk w5 W2.heap.size 33 (noughts 32) from hw5 ▸ Blk.new W2 33 (noughts 32))
      have HB5 := Lib.hid (show Below W2.heap.size W2 w5 from hw5 ▸ below_alloc (Below.refl _ _) _)
      have HTH := Lib.hid (HI5.out.there 0 (cl d).toArray.size (by rw [List.size_toArray, List.length_map, HDL.out]; simp))
      have HSZ := Lib.hid (size33' HDL.out)
      have HON := Lib.hid (one33 d)
      have HI6 := Lib.hid (setCell_zero33 w5 _ d HDL.out HI5.out)
      have HB6 := Lib.hid (show Below W2.heap.size W2 (w5.setCells W2.heap.size 0 (cl d)) from (But.setCells (k := W2.heap.size) (cl d) 0 w5 (But.of_below HB5.out)).new (Nat.le_refl _))
      clear hW2 hw5 hdp' hB4 hrg1 hsz4 hbk4 him4 hll hgf hne hcur hpx hdp hbw hsz hrg hw4 hold hks2 hkm2 hbk him
      go_upto_region 5 with (first | ((change wpList _ _ _ _ _ (W2.alloc (.cells (noughts 32).toArray 33))); rw [HW5.out]; refine wpList_store_mid rfl 33 (.tmp 4) (.tmp 15) rfl W2.heap.size 0 (cl d).toArray rfl rfl HTH.out HSZ.out HON.out ?_))
      obtain ⟨w6, hw6⟩ : ∃ w6, w5.setCells W2.heap.size 0 (cl d) = w6 := ⟨_, rfl⟩
      rw [hw6] at HI6 HB6 ⊢
      clear hw6 hnx hent HTH HSZ HON HI5 HB5 HW5
      have HB26 := Lib.hid (HB4.out.trans (HB6.out.mono HB4.out.size))
      have HBK6 := Lib.hid (HBK4.out.below HB6.out)
      have HIM6 := Lib.hid (HIM4.out.below HB6.out)
      have HKI := Lib.hid (show W2.heap.size ≠ km' from fun e => by have := HIM4.out.lt; omega)
      obtain ⟨ki, hki⟩ : ∃ ki, W2.heap.size = ki := ⟨_, rfl⟩
      have HKE := Lib.hid hki
      rw [hki] at HI6 HKI ⊢
      clear hki
      have HIMd := Lib.hid (show IMap w6.drew km' done from HIM6.out.below (pw_below_drewN (Below.refl _ _) 1))
      obtain ⟨ob, hrun, r1⟩ := IMap.update HIMd.out HDL.out v
      have hrun' : (Instr.mapUpdate 70 (Value.map (some km')) (Value.agg (cl d).toArray) v).run Tryd.prog w6.drew = .ok () (setBlock w6.drew km' ob) := hrun
      have HR9 := Lib.hid r1
      have HSX := Lib.hid (fun w' (hb : But km' w6 w') => (show w'.cell? ⟨ks', 0, none⟩ = some (.map (some km')) ∧ w'.rangeAt ki 0 (cl d) from ⟨(HBK6.out.but hb HNE'.out).cell 0, fun j v hv => by rw [Nat.zero_add, (HI6.out.but hb HKI.out).cell j]; exact hv⟩))
      have HB9 := Lib.hid (show But km' w6 (setBlock w6.drew km' ob) from (But.of_below (pw_below_drewN (Below.refl _ _) 1)).trans (but_put HIMd.out ob))
      have hS9 := HSX.out _ HB9.out
      have hS8 := HSX.out w6.drew (But.of_below (pw_below_drewN (Below.refl _ _) 1))
      clear hrun r1
      have hu33 := Tryd.underlying33
      have hi33 : (Tryd.prog.info? 33).map (·.size) = some (cl d).length := by rw [List.length_map, HDL.out]; exact size33
      go_region_held3 (fun w' => w'.cell? ⟨ks', 0, none⟩ = some (.map (some km')) ∧ w'.rangeAt ki 0 (cl d))
        (first | assumption | exact hS8 | exact hS9)
        (first | (rw [hrun']))
      obtain ⟨wE, hwE⟩ : ∃ wE, setBlock w6.drew km' ob = wE := ⟨_, rfl⟩
      rw [hwE] at HB9 HR9 ⊢
      clear hwE hrun' hS9 hS8 HSX hu33 hi33
      go_wp2_with fail
      obtain ⟨g', rfl⟩ : ∃ g', gk = g' + 1 := ⟨gk - 1, by have := HGF.out; have := HLL.out; omega⟩
      go_roundg g'
      case measure => omega
      case rel =>
        have h4 := HSZ4.out
        have h6 := HB6.out.size
        have h9 := HB9.out.size
        have hk := HKM.out
        have hk2 := HB2.out.size
        have hk3 := HKM'.out
        have hk4 := HKM2.out
        have hmv : ∀ k, k < W2.heap.size → k ≠ km' → wE.heap[k]? = W2.heap[k]? := fun k hlt hne => (HB9.out.block k (Nat.lt_of_lt_of_le hlt h6) hne).trans (HB6.out.block k hlt)
        exact ⟨left', done ++ [(d, v)], by have := HGF.out; have := HLL.out; omega, HDP.out, HBK6.out.but HB9.out HNE'.out, by rw [← HFR.out]; exact HR9.out, ((But.of_below (k := km') HB26.out).trans HB9.out).new HKM'.out, by omega, HRG.out.move (hmv km (by omega) (by omega)) (hmv w2.heap.size h4 (by omega))⟩
end Go.Proofs.YtfbkkcigkpffiaaDoor.St

namespace Go.Proofs.YtfbkkcigkpffiaaDoor.St
open Go Go.Lib Go.RowKit Go.ChangeMaps Go.Proofs.YtfbkkcigkpffiaaDoorW.PrintWords Go.Proofs.YtfbkkcigkpffiaaDoorW.PrintLast Go.Proofs.YtfbkkcigkpffiaaDoorW.PrintMore Go.Proofs.YtfbkkcigkpffiaaDoor.PStoreMany
open Go.MapKept (heap_set)
set_option linter.unusedVariables false
set_option linter.unusedSimpArgs false
theorem sorted_eq {a b : List By} (ha : Sorted a) (hb : Sorted b) (hp : a.Perm b) : a = b := by
  refine hp.eq_of_pairwise (le := fun a b => ¬ b < a) (fun x y _ _ h1 h2 => ?_) ha hb
  exact List.le_antisymm h1 h2
set_option maxRecDepth 100000 in
set_option maxHeartbeats 4000000 in
theorem eqids_walk (L : List By) (A B : Option Addr) (c c' : Nat) (w : World) (hL : ∀ x ∈ L, x.length = 32) (hA : Kd.C kI w A L.length L) (hB : Kd.C kI w B L.length L) :
    Calls Tryd.prog 23 #[.slice A L.length c, .slice B L.length c'] w fun e w' => e = .returned (.bool true) ∧ Below w.heap.size w w' := by
  have HA := Lib.hid hA
  have HB := Lib.hid hB
  have HL := Lib.hid hL
  have hl : L.length ≤ 9223372036854775807 := hA.2.1
  obtain ⟨N, hN⟩ : ∃ N, L.length = N := ⟨_, rfl⟩
  have HN := Lib.hid hN
  rw [hN] at hl ⊢
  clear hA hB hL hN
  go_enter Tryd.func23, Tryd.ntmps23
  go_wp2_with fail
  go_loopw [5] (fun v5 wr => ∃ i : Nat, i ≤ N ∧ v5 = .int .i64 i ∧ Below w.heap.size w wr) (fun v5 _ => N - (RowKit.intOf v5).toNat)
  case atStart => exact ⟨0, Nat.zero_le _, rfl, Below.refl _ _⟩
  case round =>
    obtain ⟨i, hi, rfl, hbw⟩ := hrel
    have HBW := Lib.hid hbw
    clear hbw
    by_cases hlt : i < N
    · have hlt' : (i : Int) < (N : Int) := by omega
      have hi0 : (0 : Int) ≤ (i : Int) := by omega
      have hil : i < L.length := by rw [HN.out]; exact hlt
      obtain ⟨ad, rfl, hat⟩ := C_at HA.out i hil
      obtain ⟨bd, rfl, hbt⟩ := C_at HB.out i hil
      have HXL := Lib.hid (HL.out _ (List.getElem_mem hil))
      obtain ⟨x, hx⟩ : ∃ x, L[i] = x := ⟨_, rfl⟩
      rw [hx] at hat hbt HXL
      have HL1 := Lib.hid (fun w' (h : Below wr.heap.size wr w') => ((hat.below HBW.out).below h).load 33 Tryd.isAgg33 (fun W => by rw [List.length_map, HXL.out]; exact Tryd.sizeOf33 W))
      have HL2 := Lib.hid (fun w' (h : Below wr.heap.size wr w') => ((hbt.below HBW.out).below h).load 33 Tryd.isAgg33 (fun W => by rw [List.length_map, HXL.out]; exact Tryd.sizeOf33 W))
      have hn : ∀ W, (binOp .neq 33 (vId x) (vId x)).run Tryd.prog W = .ok (.bool false) W := fun W => by rw [neq33 HXL.out HXL.out, decide_eq_true rfl]; rfl
      have hg := fun op a b => guard33 op a b x x
      clear hx hat hbt
      go_upto_region 6 with fail
      refine wp_region_cls (by kernel_rfl) (by kernel_rfl) ?_
      repeat (first | go_big_quiet_skip | (go_big_quiet_want; refine quiet_ld 33 (.tmp 19) rfl (ad.add (i * 32)) rfl (vId x) HL1.out ?_; (try simp only [Act.put, List.setIfInBounds_toArray, List.set_cons_zero, List.set_cons_succ]); go_big_quiet_on) | (go_big_quiet_want; refine quiet_ld 33 (.tmp 23) rfl (bd.add (i * 32)) rfl (vId x) HL2.out ?_; (try simp only [Act.put, List.setIfInBounds_toArray, List.set_cons_zero, List.set_cons_succ]); go_big_quiet_on) | go_big_quiet_step (fail))
      refine wpQuiet_nil ?_
      rintro wy ⟨q, rfl⟩
      have HB8 := Lib.hid (HBW.out.trans (q.below.mono HBW.out.size))
      obtain ⟨w8, hw8⟩ : ∃ w8, q.at = w8 := ⟨_, rfl⟩
      rw [hw8] at HB8 ⊢
      clear HL1 HL2 hn hg hw8
      go_wp2_with fail
      go_roundw
      case rel => exact ⟨i + 1, by omega, by go_num, HB8.out⟩
      all_goals (simp only [RowKit.intOf]; omega)
    · obtain rfl : i = N := by omega
      go_wp2_with fail
      go_ret
      exact ⟨rfl, HBW.out⟩
theorem IMap.clear {w : World} {b : Nat} {kv : KV} (h : IMap w b kv) (ty : TypeId) :
    ∃ o, (Builtin.clear_ #[70] ty #[.map (some b)]).run Tryd.prog w = .ok (.tuple #[]) (setBlock w b o) ∧ IMap (setBlock w b o) b [] := by
  obtain ⟨es, clock, hb, hm, hborn, hnd, h32⟩ := h
  refine ⟨.map #[] clock, ?_, #[], clock, (heap_set hb).1, rfl, by simp, by simp, fun x hx => by cases hx⟩
  simp [Builtin.clear_, run_underlying Tryd.underlying70, MapKept.run_getObj_map (P := Tryd.prog) hb, MapKept.run_setObj_map (P := Tryd.prog) _ hb, Result.andThen, setBlock]
set_option maxRecDepth 100000 in
theorem clear_walk (ks km : Nat) (its : Its) (w : World) (h : StoreAt w ks km its) :
    Calls Tryd.prog 24 #[.pointer (some ⟨ks, 0, none⟩)] w fun e w' => (∃ v, e = .returned v) ∧ StoreAt w' ks km [] ∧ But km w w' := by
  have c0 : w.cell? ⟨ks, 0, none⟩ = some (.map (some km)) := h.blk.cell 0
  obtain ⟨kv, hm, hs⟩ := h.map
  obtain ⟨o, hrun, hm'⟩ := hm.clear 0
  have hne : ks ≠ km := hm.ne c0
  have HST := Lib.hid (show StoreAt (setBlock w km o) ks km [] from ⟨h.blk.but (but_put hm o) hne, [], hm', trivial⟩)
  have HB := Lib.hid (but_put hm o)
  clear h hm hs hm'
  go_enter Tryd.func24, Tryd.ntmps24
  go_wp2_with fail
  exact ⟨rfl, .tuple #[], (by first | rfl | (simp [results, Tryd.f24]; done)), ⟨_, rfl⟩, HST.out, HB.out⟩
end Go.Proofs.YtfbkkcigkpffiaaDoor.St

namespace Go.Proofs.YtfbkkcigkpffiaaDoor.St
open Go Go.Lib Go.RowKit Go.ChangeMaps Go.Proofs.YtfbkkcigkpffiaaDoorW.PrintWords Go.Proofs.YtfbkkcigkpffiaaDoorW.PrintLast Go.Proofs.YtfbkkcigkpffiaaDoorW.PrintMore Go.Proofs.YtfbkkcigkpffiaaDoor.PStoreMany
set_option linter.unusedVariables false
set_option linter.unusedSimpArgs false
def encC' (y : Int) : List Int := [1, 109, 111, 114, 101, y]
/-- A Put of a blob where there is room: its id is there then, and nothing else changes. -/
theorem put_there {d di : By} {its its' : Its} {b : List Int} {nw : Bool} {er : Nat} (h : PutRes d its b di nw er its') (hl : its.length < 8192) :
    (iget its' d).isSome = true ∧ (∀ k, (iget its k).isSome = true → iget its' k = iget its k) ∧ (its' = its ∨ its' = iput its d b) := by
  unfold PutRes at h
  cases hg : iget its d with
  | some old =>
    rw [hg] at h
    obtain ⟨rfl, _⟩ := h
    exact ⟨by rw [hg]; rfl, fun _ _ => rfl, .inl rfl⟩
  | none =>
    rw [hg] at h
    simp only at h
    rw [if_neg (by omega)] at h
    obtain ⟨rfl, _⟩ := h
    exact ⟨by rw [get_put]; rfl, fun k hk => get_put_ne (fun e => by subst e; rw [hg] at hk; cases hk), .inr rfl⟩
set_option maxRecDepth 100000 in
set_option maxHeartbeats 8000000 in
theorem copies_walk (bg : List Int) (rk : Nat → Int) (tb : Tb) (er : Nat → Int) (h0 : ∀ m, er m = 0 ↔ m = 0) (encs : List (List Int)) (gone : List Int) (NN : Int) (A G : Option Addr) (cA cG : Nat) (w : World)
    (hT : Tabs bg rk w) (hU : U8T tb w) (hE : Ers er w) (hS : SetAt w A G encs gone) (hok : SetOk encs gone) :
    Calls Tryd.prog 5 #[.agg #[.slice A encs.length cA, .slice G gone.length cG, .int .i64 NN]] w fun e w' => e = .returned (.bool true) ∧ Below w.heap.size w w' := by
  obtain ⟨V, hV⟩ : ∃ V, [Value.slice A encs.length cA, Value.slice G gone.length cG, Value.int .i64 NN] = V := ⟨_, rfl⟩
  have HV := Lib.hid hV
  obtain ⟨w1, hw1⟩ : ∃ w1, w.alloc (.cells [Value.slice A encs.length cA, Value.slice G gone.length cG, Value.int .i64 NN].toArray 53) = w1 := ⟨_, rfl⟩
  have HB1 := Lib.hid (show Below w.heap.size w w1 from hw1 ▸ below_alloc (Below.refl _ _) _)
  have HP := Lib.hid (show Blk w1 w.heap.size 53 [Value.slice A encs.length cA, Value.slice G gone.length cG, Value.int .i64 NN] from hw1 ▸ Blk.new w 53 _)
  have HT1 := Lib.hid (hT.below HB1.out)
  have HE01 := Lib.hid (show w1.cell? ⟨3, 0, none⟩ = some (.int .i64 0) from pw_cell_below HB1.out (by rw [hE 0 (by decide), (h0 0).2 rfl]))
  have HFI := Lib.hid (filled_walk bg rk tb er h0 encs gone NN A G cA cG w1 (hT.below HB1.out) (hU.below HB1.out) (hE.below HB1.out) (hS.below HB1.out) hok)
  obtain ⟨M, hM⟩ : ∃ M, encs.length = M := ⟨_, rfl⟩
  obtain ⟨K, hK⟩ : ∃ K, gone.length = K := ⟨_, rfl⟩
  rw [hM, hK] at HFI HP hw1 ⊢
  have HW1 := Lib.hid hw1
  have c0 : w1.cell? ⟨w.heap.size, 0, none⟩ = some (.slice A M cA) := HP.out.cell 0
  have c1 : w1.cell? ⟨w.heap.size, 1, none⟩ = some (.slice G K cG) := HP.out.cell 1
  have c2 : w1.cell? ⟨w.heap.size, 2, none⟩ = some (.int .i64 NN) := HP.out.cell 2
  clear hT hU hE hS hok hV hM hK hw1 HV
  go_enter Tryd.func5, Tryd.ntmps5
  go_upto_region 1 with fail
  change Code.wp _ _ _ _ (w.alloc (.cells [Value.slice A M cA, Value.slice G K cG, Value.int .i64 NN].toArray 53))
  rw [HW1.out]
  go_wp2_with fail
  refine HFI.out.mono ?_
  rintro e w2 ⟨ks, km, its, rfl, hfl, hb2⟩
  have HFL := Lib.hid hfl
  have HB2 := Lib.hid hb2
  have HP2 := Lib.hid (HP.out.below hb2)
  have HID2 := Lib.hid (ids_walk ks km its w2 hfl.st (by have := hfl.len; omega))
  clear hfl hb2 HFI c0 c1 c2 HP
  go_wp2_with fail
  refine HID2.out.mono ?_
  rintro e w3 ⟨g, cap, D, rfl, hperm, hsort, h32, hrow, hg0, hg, hcap, hb3⟩
  obtain ⟨n, hn⟩ : ∃ n, D.length = n := ⟨_, rfl⟩
  have HN := Lib.hid hn
  have HPM := Lib.hid hperm
  have HSO := Lib.hid hsort
  have H32 := Lib.hid h32
  have HROW := Lib.hid hrow
  have HG := Lib.hid hg
  have HG0 := Lib.hid hg0
  have HB3 := Lib.hid hb3
  have HS3 := Lib.hid (HFL.out.st.below hb3)
  have HNL := Lib.hid (show n ≤ 80 from by have h1 := hperm.length_eq; rw [List.length_map] at h1; have := HFL.out.len; omega)
  have HCY := Lib.hid (scopy_walk ks km its HFL.out.uq w3 HS3.out (by have := HFL.out.len; omega))
  rw [hn]
  clear hn hperm hsort h32 hrow hg hg0 hb3 hcap HID2
  go_wp2_with fail
  refine HCY.out.mono ?_
  rintro e w4 ⟨kt, kn, its', rfl, hpm4, hst4, hkt, hkn, hb4⟩
  have HPM4 := Lib.hid hpm4
  have HT4 := Lib.hid hst4
  have HKN := Lib.hid hkn
  have HB4 := Lib.hid hb4
  have HS4 := Lib.hid (HS3.out.below hb4)
  have HRW4 := Lib.hid (HROW.out.below HG.out hb4)
  have HG4 := Lib.hid (show g < w4.heap.size from Nat.lt_of_lt_of_le HG.out hb4.size)
  have HKK := Lib.hid (show km ≠ kn from fun e => by
    obtain ⟨kv, hm, _⟩ := HS3.out.map
    have := hm.lt
    omega)
  have HGK := Lib.hid (show g ≠ kn from fun e => by have := HG.out; omega)
  have HGM := Lib.hid (show g ≠ km from fun e => by
    obtain ⟨kv, hm, _⟩ := HFL.out.st.map
    have := hm.lt
    have := HG0.out
    omega)
  have HL4 := Lib.hid (show its'.length ≤ 80 from by rw [hpm4.length_eq]; exact HFL.out.len)
  have HID4 := Lib.hid (ids_walk kt kn its' w4 hst4 (by have := HL4.out; omega))
  clear hpm4 hst4 hkt hkn hb4 HCY HROW HG HS3 HG0
  go_wp2_with fail
  refine HID4.out.mono ?_
  rintro e w5 ⟨g2, cap2, D2, rfl, hperm2, hsort2, _, hrow2, _, hg2, _, hb5⟩
  have hDD : D2 = D := sorted_eq hsort2 HSO.out (hperm2.trans ((HPM4.out.map _).trans HPM.out.symm))
  subst hDD
  rw [HN.out]
  have HB5 := Lib.hid hb5
  have HQ := Lib.hid (eqids_walk D2 (some ⟨g2, 0, none⟩) (some ⟨g, 0, none⟩) cap2 cap w5 H32.out (hrow2.C H32.out (by have := HN.out; have := HNL.out; omega)) ((HRW4.out.below HG4.out hb5).C H32.out (by have := HN.out; have := HNL.out; omega)))
  rw [HN.out] at HQ
  clear hperm2 hsort2 hrow2 hg2 hb5 HID4
  go_wp2_with fail
  refine HQ.out.mono ?_
  rintro e w6 ⟨rfl, hb6⟩
  have HB46 := Lib.hid (HB5.out.trans (hb6.mono HB5.out.size))
  have HB16 := Lib.hid (HB2.out.trans ((HB3.out.trans ((HB4.out.trans (HB46.out.mono HB4.out.size)).mono HB3.out.size)).mono HB2.out.size))
  have HS6 := Lib.hid (HS4.out.below HB46.out)
  have HT6 := Lib.hid (HT4.out.below HB46.out)
  have HR6 := Lib.hid (HRW4.out.below HG4.out HB46.out)
  have HG6 := Lib.hid (show g < w6.heap.size from Nat.lt_of_lt_of_le HG4.out HB46.out.size)
  have c2 : w6.cell? ⟨w.heap.size, 2, none⟩ = some (.int .i64 NN) := (HP2.out.below (HB3.out.trans ((HB4.out.trans (HB46.out.mono HB4.out.size)).mono HB3.out.size))).cell 2
  clear hb6 HQ HB5
  go_wp2_with fail
  obtain ⟨y, hy⟩ : ∃ y, NN % 256 = y := ⟨_, rfl⟩
  have hyb : Byte y := by unfold Byte; omega
  rw [hy]
  have HBA := Lib.hid (show Below w6.heap.size w6 (w6.alloc (.cells ((encC' y).map b8).toArray 5)) from below_alloc (Below.refl _ _) _)
  have HCL := Lib.hid (lit_C w6 (encC' y) (by simp [encC']))
  obtain ⟨wa, hwa⟩ : ∃ wa, w6.alloc (.cells ((encC' y).map b8).toArray 5) = wa := ⟨_, rfl⟩
  rw [hwa] at HCL HBA
  change Calls Tryd.prog 13 #[.slice (some ⟨w6.heap.size, 0, none⟩) 6 6] (w6.alloc (.cells ((encC' y).map b8).toArray 5)) _
  rw [hwa]
  have HBY := Lib.hid (show ∀ z ∈ encC' y, Byte z from by
    intro z hz
    simp only [encC', List.mem_cons, List.not_mem_nil, or_false] at hz
    unfold Byte at hyb ⊢
    rcases hz with rfl | rfl | rfl | rfl | rfl | rfl <;> omega)
  have HE6 := Lib.hid (show (encC' y).length = 6 from rfl)
  have HTL := Lib.hid (show encC' y = 1 :: (encC' y).tail from rfl)
  obtain ⟨b, hb⟩ : ∃ b, encC' y = b := ⟨_, rfl⟩
  rw [hb] at HCL HBY HE6 HTL
  obtain ⟨d, hd⟩ : ∃ d, dig bg rk b = d := ⟨_, rfl⟩
  have HD := Lib.hid hd
  have HDL := Lib.hid (show d.length = 32 from hd ▸ dig_len bg rk b)
  have HBWA := Lib.hid (HB16.out.trans (HBA.out.mono HB16.out.size))
  obtain ⟨q, hq⟩ : ∃ q, w6.heap.size = q := ⟨_, rfl⟩
  rw [hq] at HCL ⊢
  have HIDW := Lib.hid (fun W (hw : Below wa.heap.size wa W) => id_walk bg rk b _ 6 W (HT1.out.below (HBWA.out.trans (hw.mono HBWA.out.size))) (Kd.C_below HCL.out hw) (by have := HE6.out; omega) (by have := HE6.out; omega))
  rw [hd, HE6.out] at HIDW
  clear hy hyb hwa hb hd hq c2
  refine (HIDW.out wa (Below.refl _ _)).mono ?_
  rintro e w7 ⟨rfl, hb7⟩
  have HB7 := Lib.hid hb7
  have HTa := Lib.hid (HT6.out.below HBA.out)
  have HHA := Lib.hid (has_walk kt kn its' d HDL.out w7 (HTa.out.below hb7))
  obtain ⟨x, hx⟩ : ∃ x, (iget its' d).isSome = x := ⟨_, rfl⟩
  have HX := Lib.hid hx
  rw [hx] at HHA
  clear hb7 hx
  go_wp2_with fail
  refine HHA.out.mono ?_
  rintro e w8 ⟨rfl, hb8⟩
  have HB8 := Lib.hid (HB7.out.trans (hb8.mono HB7.out.size))
  have HB68 := Lib.hid (HBA.out.trans (HB8.out.mono HBA.out.size))
  have HB18 := Lib.hid (HB16.out.trans (HB68.out.mono HB16.out.size))
  have HPU := Lib.hid (put_walk bg rk ks km its b.tail _ 6 w8 (HT1.out.below HB18.out) (pw_cell_below HB18.out HE01.out) (HS6.out.below HB68.out) (HTL.out ▸ Kd.C_below HCL.out HB8.out) (by rw [← HTL.out, HE6.out]; exact Nat.le_refl _) (by rw [← HTL.out, HE6.out]; decide) (by rw [← HTL.out]; exact HBY.out) HFL.out.good.bt)
  rw [← HTL.out, HE6.out, HD.out] at HPU
  clear hb8 HHA HB7
  go_wp2_with fail
  refine HPU.out.mono ?_
  rintro e w9 ⟨di, nw, erp, its2, rfl, hres, hs9, hbut9, _⟩
  have HTH := Lib.hid (put_there hres (by have := HFL.out.len; omega))
  have HS9 := Lib.hid hs9
  have HBU := Lib.hid hbut9
  have HT8 := Lib.hid (HT6.out.below HB68.out)
  have HT9 := Lib.hid (show StoreAt w9 kt kn its' from by
    obtain ⟨kv, hm, _⟩ := (HS6.out.below HB68.out).map
    exact HT8.out.other hm (fun e => HKK.out e.symm) hbut9)
  have HR9 := Lib.hid (show RowI w9 g D2 from (HR6.out.below HG6.out HB68.out).but (Nat.lt_of_lt_of_le HG6.out HB68.out.size) hbut9 HGM.out)
  have HG9 := Lib.hid (show g < w9.heap.size from Nat.lt_of_lt_of_le (Nat.lt_of_lt_of_le HG6.out HB68.out.size) hbut9.size)
  have HB19 := Lib.hid (show Below w1.heap.size w1 w9 from ((But.of_below (k := km) HB18.out).trans hbut9).new HFL.out.km)
  have HC9 := Lib.hid (show Kd.C kB w9 (some ⟨q, 0, none⟩) b.length b from by
    obtain ⟨kv, hm, _⟩ := (HS6.out.below HB68.out).map
    exact C_but hm hbut9 (Kd.C_below HCL.out HB8.out))
  have HIDX := Lib.hid (fun W (hw : Below w9.heap.size w9 W) => id_walk bg rk b _ 6 W (HT1.out.below (HB19.out.trans (hw.mono HB19.out.size))) (Kd.C_below HC9.out hw) (by have := HE6.out; omega) (by have := HE6.out; omega))
  rw [HD.out, HE6.out] at HIDX
  clear hres hs9 hbut9 HPU HIDW HCL HT8 HS6 HT6 HR6 HG6 HB68 HB8 HBA HTa
  go_wp2_with fail
  refine (HIDX.out w9 (Below.refl _ _)).mono ?_
  rintro e w10 ⟨rfl, hb10⟩
  have HB10 := Lib.hid hb10
  have HHA := Lib.hid (has_walk kt kn its' d HDL.out w10 (HT9.out.below hb10))
  rw [HX.out] at HHA
  clear hb10
  go_wp2_with fail
  refine HHA.out.mono ?_
  rintro e w11 ⟨rfl, hb11⟩
  have HB11 := Lib.hid (HB10.out.trans (hb11.mono HB10.out.size))
  have HID11 := Lib.hid (ids_walk kt kn its' w11 (HT9.out.below HB11.out) (by have := HL4.out; omega))
  have hxx : (x == x) = true := by simp
  have hxn : (x != x) = false := by simp
  clear hb11 HHA HB10
  go_wp2_with fail
  refine HID11.out.mono ?_
  rintro e w12 ⟨g3, cap3, D3, rfl, hperm2, hsort2, _, hrow2, _, hg2, _, hb12⟩
  have hDD : D3 = D2 := sorted_eq hsort2 HSO.out (hperm2.trans ((HPM4.out.map _).trans HPM.out.symm))
  subst hDD
  rw [HN.out]
  have HB12 := Lib.hid (HB11.out.trans (hb12.mono HB11.out.size))
  have HQ := Lib.hid (eqids_walk D3 (some ⟨g3, 0, none⟩) (some ⟨g, 0, none⟩) cap3 cap w12 H32.out (hrow2.C H32.out (by have := HN.out; have := HNL.out; omega)) ((HR9.out.below HG9.out HB12.out).C H32.out (by have := HN.out; have := HNL.out; omega)))
  rw [HN.out] at HQ
  clear hperm2 hsort2 hrow2 hg2 hb12 HID11
  go_wp2_with fail
  refine HQ.out.mono ?_
  rintro e w13 ⟨rfl, hb13⟩
  have HB13 := Lib.hid (HB12.out.trans (hb13.mono HB12.out.size))
  clear hb13 HQ HB12 HB11
  go_wp2_with fail
  have HB113 := Lib.hid (HB19.out.trans (HB13.out.mono HB19.out.size))
  have HS13 := Lib.hid (HS9.out.below HB13.out)
  have HT13 := Lib.hid (HT9.out.below HB13.out)
  have HR13 := Lib.hid (HR9.out.below HG9.out HB13.out)
  have HG13 := Lib.hid (show g < w13.heap.size from Nat.lt_of_lt_of_le HG9.out HB13.out.size)
  have HC13 := Lib.hid (Kd.C_below HC9.out HB13.out)
  clear HS9 HT9 HR9 HG9 HC9 HIDX HB19
  go_loopw [9] (fun v9 wr => ∃ i : Nat, i ≤ n ∧ v9 = .int .i64 i ∧ Below w13.heap.size w13 wr) (fun v9 _ => n - (RowKit.intOf v9).toNat)
  case atStart => exact ⟨0, Nat.zero_le _, rfl, Below.refl _ _⟩
  case round =>
    obtain ⟨i, hin, rfl, hbw⟩ := hrel
    have HBW := Lib.hid hbw
    clear hbw
    have hn80 := HNL.out
    by_cases hlt : i < n
    · have hlt' : (i : Int) < (n : Int) := by omega
      have hi0 : (0 : Int) ≤ (i : Int) := by omega
      have hil : i < D3.length := by rw [HN.out]; exact hlt
      obtain ⟨k, hk⟩ : ∃ k, D3[i] = k := ⟨_, rfl⟩
      have HKL := Lib.hid (show k.length = 32 from hk ▸ H32.out _ (List.getElem_mem hil))
      have hkm : k ∈ its.map (·.1) := HPM.out.subset (hk ▸ List.getElem_mem hil)
      have hsm : (iget its k).isSome = true := by
        cases hg : iget its k with
        | none => exact absurd hkm (iget_none.1 hg)
        | some _ => rfl
      obtain ⟨bb, hbb⟩ := Option.isSome_iff_exists.1 hsm
      have HI1 := Lib.hid (show iget its' k = some bb from by rw [iget_perm HPM4.out HFL.out.uq]; exact hbb)
      have HI2 := Lib.hid (show iget its2 k = some bb from by rw [HTH.out.2.1 k hsm]; exact hbb)
      have HBB := Lib.hid (show bb.length ≤ 65536 from pe_len (HFL.out.good _ (mem_of_iget hbb)).2.1)
      have HCA := Lib.hid (show CellsAt w13 ⟨g, i * 32, none⟩ (cl k) from fun j v hj => by
        rw [Addr.add_lit]
        exact (HR13.out i hil j v (by rw [hk]; exact hj)).1)
      have HLD := Lib.hid (fun W (hb : Below w13.heap.size w13 W) => (HCA.out.below hb).load 33 Tryd.isAgg33 (fun W => by rw [List.length_map, HKL.out]; exact Tryd.sizeOf33 W))
      have HGT := Lib.hid (get_walk kt kn its' k HKL.out wr (HT13.out.below HBW.out) (fun b' hb' => by rw [HI1.out] at hb'; injection hb' with hb'; subst hb'; have := HBB.out; omega))
      clear hkm hsm hbb hk
      go_wp2_with (refine wpList_ld rfl 33 (.tmp 69) rfl ⟨g, i * 32, none⟩ rfl _ (HLD.out _ HBW.out) ?_)
      refine HGT.out.mono ?_
      rintro e w14 ⟨hb14, hres⟩
      have HB14 := Lib.hid (HBW.out.trans (hb14.mono HBW.out.size))
      rcases hres with ⟨hno, _⟩ | ⟨b1, v1, hb1, rfl, hv1⟩
      · rw [HI1.out] at hno; cases hno
      obtain rfl : bb = b1 := by rw [HI1.out] at hb1; exact Option.some.inj hb1
      obtain ⟨A1, c1, rfl, hc1, hC1⟩ := hv1
      have HC1 := Lib.hid hC1
      have HCC1 := Lib.hid hc1
      have HGT2 := Lib.hid (get_walk ks km its2 k HKL.out w14 (HS13.out.below HB14.out) (fun b' hb' => by rw [HI2.out] at hb'; injection hb' with hb'; subst hb'; have := HBB.out; omega))
      obtain ⟨L, hL⟩ : ∃ L, bb.length = L := ⟨_, rfl⟩
      have HLL := Lib.hid hL
      rw [hL]
      clear hb14 hb1 hc1 hC1 hL HGT
      go_wp2_with (refine wpList_ld rfl 33 (.tmp 78) rfl ⟨g, i * 32, none⟩ rfl _ (HLD.out _ HB14.out) ?_)
      refine HGT2.out.mono ?_
      rintro e w15 ⟨hb15, hres⟩
      have HB15 := Lib.hid (HB14.out.trans (hb15.mono HB14.out.size))
      rcases hres with ⟨hno, _⟩ | ⟨b1, v1, hb1, rfl, hv1⟩
      · rw [HI2.out] at hno; cases hno
      obtain rfl : bb = b1 := by rw [HI2.out] at hb1; exact Option.some.inj hb1
      obtain ⟨A2, c2, rfl, hc2, hC2⟩ := hv1
      have HC2 := Lib.hid hC2
      have HCC2 := Lib.hid hc2
      have HC1 := Lib.hid (Kd.C_below HC1.out hb15)
      rw [HLL.out]
      clear hb15 hb1 hc2 hC2 HGT2 HLD HCA
      go_wp2_with fail
      refine (num_below 0 w15).mono ?_
      rintro e w16 ⟨rfl, hb16⟩
      have HB16 := Lib.hid hb16
      clear hb16
      go_wp2_with fail
      refine (num_below 0 w16).mono ?_
      rintro e w17 ⟨rfl, hb17⟩
      have HB17 := Lib.hid (HB16.out.trans (hb17.mono HB16.out.size))
      have HEF := Lib.hid (eq_self bb (by have := HBB.out; omega))
      have HEQ := Lib.hid (satchelref0_Eq.calls (2 * bb.length + 2) A1 c1 bb A2 c2 bb true w17 (Kd.C_below HC1.out HB17.out) HCC1.out (Kd.C_below HC2.out HB17.out) HCC2.out HEF.out)
      rw [HLL.out] at HEQ
      clear hb17
      go_wp2_with fail
      refine HEQ.out.mono ?_
      rintro e w18 ⟨rfl, hd18⟩
      have HB18 := Lib.hid (HB15.out.trans ((HB17.out.trans (hd18.below.mono HB17.out.size)).mono HB15.out.size))
      clear hd18 HEQ
      go_wp2_with fail
      go_roundw
      case rel => exact ⟨i + 1, by omega, by go_num, HB18.out⟩
      all_goals (simp only [RowKit.intOf]; omega)
    · obtain rfl : i = n := by omega
      have HLE := Lib.hid (len_below ks km its2 wr (HS13.out.below HBW.out))
      obtain ⟨L, hL⟩ : ∃ L, its2.length = L := ⟨_, rfl⟩
      have HLL := Lib.hid hL
      rw [hL] at HLE
      clear hL
      go_wp2_with fail
      refine HLE.out.mono ?_
      rintro e w14 ⟨rfl, hb14⟩
      have HB14 := Lib.hid (HBW.out.trans (hb14.mono HBW.out.size))
      have HCLR := Lib.hid (clear_walk kt kn its' w14 (HT13.out.below HB14.out))
      clear hb14 HLE
      go_wp2_with fail
      refine HCLR.out.mono ?_
      rintro e w15 ⟨⟨v, rfl⟩, hs15, hb15⟩
      have HT15 := Lib.hid hs15
      have HS15 := Lib.hid (show StoreAt w15 ks km its2 from by
        obtain ⟨kv, hm, _⟩ := (HT13.out.below HB14.out).map
        exact (HS13.out.below HB14.out).other hm HKK.out hb15)
      have HC15 := Lib.hid (show Kd.C kB w15 (some ⟨q, 0, none⟩) b.length b from by
        obtain ⟨kv, hm, _⟩ := (HT13.out.below HB14.out).map
        exact C_but hm hb15 (Kd.C_below HC13.out HB14.out))
      have HB115 := Lib.hid (show Below w1.heap.size w1 w15 from ((But.of_below (k := kn) (HB113.out.trans (HB14.out.mono HB113.out.size))).trans hb15).new (Nat.le_trans (Nat.le_trans HB2.out.size HB3.out.size) HKN.out))
      have HLE := Lib.hid (len_below kt kn [] w15 hs15)
      clear hs15 hb15 HCLR
      go_wp2_with fail
      refine HLE.out.mono ?_
      rintro e w16 ⟨rfl, hb16⟩
      have HB16 := Lib.hid hb16
      have HID16 := Lib.hid (ids_walk kt kn [] w16 (HT15.out.below hb16) (by simp))
      clear hb16 HLE
      go_wp2_with fail
      refine HID16.out.mono ?_
      rintro e w17 ⟨g4, cap4, D4, rfl, hperm4, _, _, _, _, _, _, hb17⟩
      obtain rfl : D4 = [] := hperm4.eq_nil
      have HB17 := Lib.hid (HB16.out.trans (hb17.mono HB16.out.size))
      have HLE := Lib.hid (len_below ks km its2 w17 (HS15.out.below HB17.out))
      rw [HLL.out] at HLE
      clear hb17 hperm4 HID16
      go_wp2_with fail
      refine HLE.out.mono ?_
      rintro e w18 ⟨rfl, hb18⟩
      have HB18 := Lib.hid (HB17.out.trans (hb18.mono HB17.out.size))
      have HIDZ := Lib.hid (id_walk bg rk b _ 6 w18 (HT1.out.below (HB115.out.trans (HB18.out.mono HB115.out.size))) (Kd.C_below HC15.out HB18.out) (by have := HE6.out; omega) (by have := HE6.out; omega))
      rw [HD.out, HE6.out] at HIDZ
      clear hb18 HLE
      go_wp2_with fail
      refine HIDZ.out.mono ?_
      rintro e w19 ⟨rfl, hb19⟩
      have HB19 := Lib.hid (HB18.out.trans (hb19.mono HB18.out.size))
      have HHZ := Lib.hid (has_walk ks km its2 d HDL.out w19 (HS15.out.below HB19.out))
      rw [HTH.out.1] at HHZ
      clear hb19 HIDZ
      go_wp2_with fail
      refine HHZ.out.mono ?_
      rintro e w20 ⟨rfl, hb20⟩
      have HB20 := Lib.hid (HB19.out.trans (hb20.mono HB19.out.size))
      clear hb20 HHZ
      go_wp2_with fail
      go_ret
      exact ⟨rfl, HB1.out.trans ((HB115.out.trans (HB20.out.mono HB115.out.size)).mono HB1.out.size)⟩
end Go.Proofs.YtfbkkcigkpffiaaDoor.St
