/- The walk of a store's Put at any bytes, given what Parse answers of them. -/
import Derived.Test.YtfbkkcigkpffiaaDoorGd
namespace Go.Proofs.YtfbkkcigkpffiaaDoor.St
open Go.MapKept (heap_set)
open Go Go.Lib Go.RowKit Go.ChangeMaps Go.Proofs.YtfbkkcigkpffiaaDoorW.PrintWords Go.Proofs.YtfbkkcigkpffiaaDoorW.PrintLast Go.Proofs.YtfbkkcigkpffiaaDoorW.PrintMore Go.Proofs.YtfbkkcigkpffiaaDoor.PStoreMany
set_option linter.unusedVariables false
set_option linter.unusedSimpArgs false
/-- What Put tells, and what the store holds then. -/
def PutAny (pe : Int) (d : By) (its : Its) (b : List Int) (di : By) (nw : Bool) (er : Nat) (its' : Its) : Prop :=
  if pe = 0 then PutRes d its b di nw er its' else its' = its ∧ nw = false ∧ er = 40
/-- In which blocks the encodings of a map lie. -/
def Owned (w : World) (km : Nat) (O : Nat → Prop) : Prop := ∃ kv, IMap w km kv ∧ ∀ x ∈ kv, ∀ j, x.2.ownBlock = some j → O j
def OwnKept (km : Nat) (w w' : World) : Prop := ∀ O : Nat → Prop, (∀ j, w.heap.size ≤ j → O j) → Owned w km O → Owned w' km O
theorem Owned.of_block {w w' : World} {km : Nat} {O : Nat → Prop} (h : Owned w km O) (e : w'.heap[km]? = w.heap[km]?) : Owned w' km O := by
  obtain ⟨kv, h1, h2⟩ := h
  exact ⟨kv, h1.of_block e, h2⟩
theorem OwnKept.of_below {w w' : World} {km : Nat} (hb : Below w.heap.size w w') : OwnKept km w w' := fun O _ h => h.of_block (by
  obtain ⟨kv, h1, _⟩ := h
  exact hb.block km h1.lt)
theorem map_G : ∀ {a b : KV}, a.map G = b.map G → a = b
  | [], [], _ => rfl
  | [], _ :: _, h => by simp at h
  | _ :: _, [], h => by simp at h
  | x :: a, y :: b, h => by
    rw [List.map_cons, List.map_cons] at h
    injection h with h1 h2
    rw [G_inj h1, map_G h2]
theorem IMap.unique {w : World} {km : Nat} {a b : KV} (ha : IMap w km a) (hb : IMap w km b) : a = b := by
  obtain ⟨es, c, h1, h2, _⟩ := ha
  obtain ⟨es', c', g1, g2, _⟩ := hb
  rw [h1] at g1
  injection g1 with g1
  injection g1 with g1 _
  subst g1
  exact map_G (h2.symm.trans g2)
theorem kput_mem {x : By × Value} {k : By} {v : Value} : ∀ {kv : KV}, x ∈ kput kv k v → x.2 = v ∨ ∃ y ∈ kv, y.2 = x.2
  | [], h => by simp [kput] at h; left; rw [h]
  | (a, z) :: r, h => by
    unfold kput at h
    by_cases e : a = k
    · rw [if_pos e] at h
      rcases List.mem_cons.1 h with h | h
      · left; rw [h]
      · exact .inr ⟨x, List.mem_cons_of_mem _ h, rfl⟩
    · rw [if_neg e] at h
      rcases List.mem_cons.1 h with h | h
      · exact .inr ⟨(a, z), List.mem_cons_self, by rw [h]⟩
      · rcases kput_mem h with h | ⟨y, hy, e2⟩
        · exact .inl h
        · exact .inr ⟨y, List.mem_cons_of_mem _ hy, e2⟩
theorem OwnKept.put {w w' : World} {km : Nat} {kv : KV} {d : By} {v : Value} (hm : IMap w km kv) (hn : IMap w' km (kput kv d v)) (hv : ∀ j, v.ownBlock = some j → w.heap.size ≤ j) : OwnKept km w w' := fun O hO h => by
  obtain ⟨kv0, h1, h2⟩ := h
  obtain rfl := IMap.unique h1 hm
  refine ⟨_, hn, fun x hx j hj => ?_⟩
  rcases kput_mem hx with e | ⟨y, hy, e⟩
  · exact hO j (hv j (e ▸ hj))
  · exact h2 y hy j (e ▸ hj)
theorem PutAny.of {d : By} {its : Its} {b : List Int} {di : By} {nw : Bool} {er : Nat} {its' : Its} (h : PutRes d its b di nw er its') : PutAny 0 d its b di nw er its' := h
set_option maxRecDepth 100000 in
set_option maxHeartbeats 4000000 in
/-- Put, given what Parse answers of these bytes. -/
theorem put_any (bg : List Int) (rk : Nat → Int) (ks km : Nat) (its : Its) (b : List Int) (A : Option Addr) (c : Nat) (w : World) (pe : Int) (hT : Tabs bg rk w) (hS : StoreAt w ks km its)
    (hC : Kd.C kB w A b.length b) (hc : b.length ≤ c) (hl : b.length ≤ 140737488355328) (hl0 : pe = 0 → b.length ≤ 65536) (hby : ∀ y ∈ b, Byte y) (hits : ∀ x ∈ its, ∀ y ∈ x.2, Byte y)
    (hP : ∀ W, Below w.heap.size w W → Calls Tryd.prog 33 #[.slice A b.length c] W fun e w' => ∃ cs : List Value, cs.length = 76 ∧ (∀ u ∈ cs, u.oneCell' = true) ∧ e = .returned (.tuple #[.agg cs.toArray, .int .i64 pe]) ∧ Below W.heap.size W w') :
    Calls Tryd.prog 15 #[.pointer (some ⟨ks, 0, none⟩), .slice A b.length c] w fun e w' => ∃ di nw er its', e = .returned (.tuple #[vId di, .bool nw, .int .i64 (er : Nat)]) ∧ PutAny pe (dig bg rk b) its b di nw er its' ∧ StoreAt w' ks km its' ∧ But km w w' ∧ di.length = 32 ∧ OwnKept km w w' := by
  have HT := Lib.hid hT
  have HS := Lib.hid hS
  have HC := Lib.hid hC
  obtain ⟨w1, hw1⟩ : ∃ w1, w.alloc (.cells (noughts 32).toArray 33) = w1 := ⟨_, rfl⟩
  have HB1 := Lib.hid (show Below w.heap.size w w1 from hw1 ▸ below_alloc (Below.refl _ _) _)
  have HRV := Lib.hid (show Blk w1 w.heap.size 33 (noughts 32) from hw1 ▸ Blk.new w 33 (noughts 32))
  have HW1 := Lib.hid hw1
  have HPA := Lib.hid (hP w1 HB1.out)
  have HID := Lib.hid (fun W (hb : Below w.heap.size w W) => id_walk bg rk b A c W (hT.below hb) (Kd.C_below hC hb) hc hl)
  have HCL := Lib.hid (fun W (hb : Below w.heap.size w W) (h0 : b.length ≤ 65536) => clone_walk b A c W (Kd.C_below hC hb) (by omega))
  have HCN := Lib.hid hc
  obtain ⟨N, hN⟩ : ∃ N, b.length = N := ⟨_, rfl⟩
  have HN := Lib.hid hN
  rw [hN] at HPA HID HCL hl0 ⊢
  obtain ⟨d, hd⟩ : ∃ d, dig bg rk b = d := ⟨_, rfl⟩
  have HDL := Lib.hid (show d.length = 32 from hd ▸ dig_len bg rk b)
  rw [hd] at HID ⊢
  have HBY := Lib.hid hby
  have HIT := Lib.hid hits
  have HL0 := Lib.hid hl0
  clear hT hS hC hw1 hN hd hby hits hP hc hl hl0
  go_enter Tryd.func15, Tryd.ntmps15
  go_upto_region 1 with (fail)
  change Code.wp _ _ _ _ (w.alloc (.cells (noughts 32).toArray 33))
  rw [HW1.out]
  go_wp2_with fail
  refine HPA.out.mono ?_
  rintro e w2 ⟨cs, hcl, hco1, rfl, hb2⟩
  have HB2 := Lib.hid (HB1.out.trans (hb2.mono HB1.out.size))
  have HRV2 := Lib.hid (HRV.out.below hb2)
  obtain ⟨w3, hw3⟩ : ∃ w3, w2.alloc (.cells Tryd.zeroCells80 80) = w3 := ⟨_, rfl⟩
  have HW3 := Lib.hid hw3
  have HO3 := Lib.hid (show Blk w3 w2.heap.size 80 Tryd.zeroCells80.toList from hw3 ▸ new80 w2)
  have HB3 := Lib.hid (show Below w2.heap.size w2 w3 from hw3 ▸ below_alloc (Below.refl _ _) _)
  have HTH := Lib.hid (HO3.out.there 0 cs.toArray.size (by rw [List.size_toArray, hcl, zero80]; decide))
  have HSZ := Lib.hid (show (Tryd.prog.info? 80).map (·.size) = some cs.toArray.size from by rw [List.size_toArray, hcl]; exact size80)
  have HON := Lib.hid (all_oneCell_toArray hco1)
  have HB4 := Lib.hid (show Below w2.heap.size w2 (w3.setCells w2.heap.size 0 cs) from (But.setCells (k := w2.heap.size) cs 0 w3 (But.of_below HB3.out)).new (Nat.le_refl _))
  clear hb2 hcl hco1 hw3
  by_cases hpe : pe = 0
  case neg =>
    have h1 : (pe == 0) = false := by simpa using hpe
    have h2 : (pe != 0) = true := by simpa using hpe
    have HPE := Lib.hid hpe
    obtain ⟨w4, hw4⟩ : ∃ w4, w3.setCells w2.heap.size 0 cs = w4 := ⟨_, rfl⟩
    have HW4 := Lib.hid hw4
    rw [hw4] at HB4
    have HB24 := Lib.hid (HB2.out.trans (HB4.out.mono HB2.out.size))
    have HRV4 := Lib.hid (HRV2.out.below HB4.out)
    have HTHz := Lib.hid (HRV4.out.there 0 (cl zid).toArray.size (by simp [zid]))
    have HSZz := Lib.hid (size33' (D := zid) (by decide))
    have HONz := Lib.hid (one33 zid)
    have HF := Lib.hid (ret_id zid (by decide) HRV4.out HB24.out (Nat.le_refl _))
    have HSF := Lib.hid (HS.out.below HF.out.2)
    clear hpe hw4
    go_wp2_with (first | (rw [HW3.out]; refine wpList_store_mid rfl 80 (.tmp 7) (.tmp 15) rfl w2.heap.size 0 cs.toArray rfl rfl HTH.out HSZ.out HON.out ?_; (change wpList _ _ _ _ _ (w3.setCells w2.heap.size 0 cs)); rw [HW4.out]) | (refine wpList_store_mid rfl 33 (.tmp 4) (.tmp 19) rfl w.heap.size 0 (cl zid).toArray rfl rfl HTHz.out HSZz.out HONz.out ?_))
    exact bodyPost_ret (v := .tuple #[vId zid, .bool false, .int .i64 40]) (results_list (rs := [.cell 4 33, .tmp 5, .tmp 6]) rfl (by simp) (.cell w.heap.size 33 (cl zid).toArray (0, 0) _ rfl HF.out.1 Tryd.underlying33 rfl HSZz.out (.tmp (.tmp .nil)))) rfl ⟨zid, false, 40, its, rfl, by unfold PutAny; rw [if_neg HPE.out]; exact ⟨rfl, rfl, rfl⟩, HSF.out, But.of_below HF.out.2, by decide, OwnKept.of_below HF.out.2⟩
  subst hpe
  have HC0 := Lib.hid (HL0.out rfl)
  have HCL := Lib.hid (fun W (hb : Below w.heap.size w W) => HCL.out W hb (by have := HC0.out; have := HN.out; omega))
  go_upto_region 4 with (rw [HW3.out]; refine wpList_store_mid rfl 80 (.tmp 7) (.tmp 15) rfl w2.heap.size 0 cs.toArray rfl rfl HTH.out HSZ.out HON.out ?_)
  obtain ⟨w4, hw4⟩ : ∃ w4, w3.setCells w2.heap.size 0 cs = w4 := ⟨_, rfl⟩
  rw [hw4] at HB4 ⊢
  have HB24 := Lib.hid (HB2.out.trans (HB4.out.mono HB2.out.size))
  have HRV4 := Lib.hid (HRV2.out.below HB4.out)
  clear hw4
  go_wp2_with fail
  refine (HID.out _ HB24.out).mono ?_
  rintro e w5 ⟨rfl, hb5⟩
  have HB5 := Lib.hid (HB24.out.trans (hb5.mono HB24.out.size))
  have HRV5 := Lib.hid (HRV4.out.below hb5)
  obtain ⟨w6, hw6⟩ : ∃ w6, w5.alloc (.cells (noughts 32).toArray 33) = w6 := ⟨_, rfl⟩
  have HW6 := Lib.hid hw6
  have HI6 := Lib.hid (show Blk w6 w5.heap.size 33 (noughts 32) from hw6 ▸ Blk.new w5 33 (noughts 32))
  have HB6 := Lib.hid (show Below w5.heap.size w5 w6 from hw6 ▸ below_alloc (Below.refl _ _) _)
  have HTH := Lib.hid (HI6.out.there 0 (cl d).toArray.size (by rw [List.size_toArray, List.length_map, HDL.out]; simp))
  have HSZ := Lib.hid (size33' HDL.out)
  have HON := Lib.hid (one33 d)
  have HI7 := Lib.hid (ret_id d HDL.out HI6.out HB6.out (Nat.le_refl _))
  clear hb5 hw6
  go_upto_region 5 with (first | ((change wpList _ _ _ _ _ (w5.alloc (.cells (noughts 32).toArray 33))); rw [HW6.out]; refine wpList_store_mid rfl 33 (.tmp 9) (.tmp 21) rfl w5.heap.size 0 (cl d).toArray rfl rfl HTH.out HSZ.out HON.out ?_))
  obtain ⟨w7, hw7⟩ : ∃ w7, w6.setCells w5.heap.size 0 (cl d) = w7 := ⟨_, rfl⟩
  rw [hw7] at HI7 ⊢
  obtain ⟨ki, hki⟩ : ∃ ki, w5.heap.size = ki := ⟨_, rfl⟩
  rw [hki]
  have HI := Lib.hid (show Blk w7 ki 33 (cl d) from hki ▸ HI7.out.1)
  have HB7 := Lib.hid (HB5.out.trans (HI7.out.2.mono HB5.out.size))
  have HRV7 := Lib.hid (HRV5.out.below HI7.out.2)
  have HS7 := Lib.hid (HS.out.below HB7.out)
  have HKI := Lib.hid (show w.heap.size ≤ ki from hki ▸ HB5.out.size)
  clear hw7 hki HI7 HI6 HTH HSZ HON
  try simp only [Act.put]
  have c0 : ∀ q : Cls w7, q.at.cell? ⟨ks, 0, none⟩ = some (.map (some km)) := fun q => q.cell (HS7.out.blk.cell 0)
  have HL1 := Lib.hid (fun w' (hb : Below w7.heap.size w7 w') => (HI.out.below hb).loads 33 Tryd.isAgg33 (fun W => by rw [List.length_map, HDL.out]; exact Tryd.sizeOf33 W))
  obtain ⟨kv, hm0, hs0⟩ := HS.out.map
  have hm := hm0.below HB7.out
  have hs := hs0.imp (fun v b hv => IsB.below hv HB7.out)
  have HLK := Lib.hid (fun w' (hb : Below w7.heap.size w7 w') => (hm.below hb).lookup HDL.out true)
  simp only [if_true] at HLK
  have HM0 := Lib.hid hm0
  have HS0 := Lib.hid hs0
  have HM := Lib.hid hm
  have HSM := Lib.hid hs
  rcases hs.get d with ⟨g1, g2⟩ | ⟨ov, old, g1, g2, hov⟩
  · rw [g2] at HLK
    have HG1 := Lib.hid g1
    have HG2 := Lib.hid g2
    clear hm0 hs0 hm hs g1 g2
    refine wp_region_cls (by kernel_rfl) (by kernel_rfl) ?_
    repeat (first | go_big_quiet_skip | (go_big_quiet_want; refine quiet_ld 33 (.tmp 9) rfl ⟨ki, 0, none⟩ rfl (vId d) HL1.out ?_; (try simp only [Act.put, List.setIfInBounds_toArray, List.set_cons_zero, List.set_cons_succ]); go_big_quiet_on) | (go_big_quiet_want; refine quiet_look 70 (.tmp 26) (.tmp 27) true rfl (.map (some km)) (vId d) rfl rfl _ HLK.out ?_; (try simp only [Act.put, List.setIfInBounds_toArray, List.set_cons_zero, List.set_cons_succ]); go_big_quiet_on) | go_big_quiet_step (fail))
    refine wpQuiet_nil ?_
    rintro wy ⟨q, rfl⟩
    have HB8 := Lib.hid (HB7.out.trans (q.below.mono HB7.out.size))
    have HRV8 := Lib.hid (HRV7.out.below q.below)
    have HS8 := Lib.hid (HS7.out.below q.below)
    have HI8 := Lib.hid (HI.out.below q.below)
    have HM8 := Lib.hid (HM.out.below q.below)
    have HKM := Lib.hid (show ki ≠ km from HM8.out.ne (HI8.out.cell 0 |>.trans (show (cl d)[0]? = some ((cl d)[0]'(by rw [List.length_map, HDL.out]; decide)) from List.getElem?_eq_getElem _)))
    have HSM8 := Lib.hid (HSM.out.imp (fun v b hv => IsB.below hv q.below))
    obtain ⟨w8, hw8⟩ : ∃ w8, q.at = w8 := ⟨_, rfl⟩
    rw [hw8] at HB8 HRV8 HS8 HI8 HM8 HSM8 ⊢
    have c0 : w8.cell? ⟨ks, 0, none⟩ = some (.map (some km)) := HS8.out.blk.cell 0
    have hln := run_mlen HM8.out 3
    rw [HSM8.out.len] at hln
    have HLD := Lib.hid (HI8.out.loads 33 Tryd.isAgg33 (fun W => by rw [List.length_map, HDL.out]; exact Tryd.sizeOf33 W))
    clear hw8 q HL1 HLK HS7 HM HSM HI HRV7 HB7
    by_cases hfull : 8192 ≤ its.length
    · have hf' : (8192 : Int) ≤ (its.length : Int) := by omega
      have HTH := Lib.hid (HRV8.out.there 0 (cl zid).toArray.size (by simp [zid]))
      have HSZ := Lib.hid (size33' (D := zid) (by decide))
      have HON := Lib.hid (one33 zid)
      have HF := Lib.hid (ret_id zid (by decide) HRV8.out HB8.out (Nat.le_refl _))
      have HRES := Lib.hid (show PutRes d its b zid false 44 its from by unfold PutRes; rw [HG1.out]; simp only; rw [if_pos hfull]; trivial)
      have HSF := Lib.hid (HS.out.below HF.out.2)
      clear HLD
      go_wp2_with (refine wpList_store_mid rfl 33 (.tmp 4) (.tmp 49) rfl w.heap.size 0 (cl zid).toArray rfl rfl HTH.out HSZ.out HON.out ?_)
      exact bodyPost_ret (v := .tuple #[vId zid, .bool false, .int .i64 44]) (results_list (rs := [.cell 4 33, .tmp 5, .tmp 6]) rfl (by simp) (.cell w.heap.size 33 (cl zid).toArray (0, 0) _ rfl HF.out.1 Tryd.underlying33 rfl HSZ.out (.tmp (.tmp .nil)))) rfl ⟨zid, false, 44, its, rfl, PutAny.of HRES.out, HSF.out, But.of_below HF.out.2, by decide, OwnKept.of_below HF.out.2⟩
    · have hf' : ¬ (8192 : Int) ≤ (its.length : Int) := by omega
      go_upto_region 12 with (fail)
      have HSX := Lib.hid (fun w' (hb : But km w8 w') => (show w'.cell? ⟨ks, 0, none⟩ = some (.map (some km)) ∧ w'.rangeAt ki 0 (cl d) from ⟨(HS8.out.blk.but hb (HM8.out.ne (HS8.out.blk.cell 0))).cell 0, fun j v hv => by rw [Nat.zero_add, (HI8.out.but hb HKM.out).cell j]; exact hv⟩))
      have hu33 := Tryd.underlying33
      have hi33 : (Tryd.prog.info? 33).map (·.size) = some (cl d).length := by rw [List.length_map, HDL.out]; exact size33
      have HCL8 := Lib.hid (fun W (hb : Below w8.heap.size w8 W) => HCL.out W (HB8.out.trans (hb.mono HB8.out.size)))
      clear hln c0 HLD
      go_region_held3 (fun w' => w'.cell? ⟨ks, 0, none⟩ = some (.map (some km)) ∧ w'.rangeAt ki 0 (cl d))
        (first | assumption | exact HSX.out _ (But.of_below (pw_below_drewN (Below.refl _ _) 1)) | exact HSX.out _ (But.of_below (by assumption)))
        (first | (go_at_call 35; (refine (HCL8.out _ (pw_below_drewN (Below.refl _ _) 1)).mono ?_); rintro e w9 ⟨cv, rfl, hcv, hfr, hb9⟩; have hb89 := Below.trans (pw_below_drewN (Below.refl _ w8) 1) hb9) | (obtain ⟨ob, hrun, r1⟩ := IMap.update (HM8.out.below hb89) HDL.out cv; have HR9 := Lib.hid r1; have hS9 := HSX.out _ ((But.of_below hb89).trans (but_put (HM8.out.below hb89) ob)); rw [show Sem.run Tryd.prog (Instr.mapUpdate 70 (Value.map (some km)) (Value.agg (cl d).toArray) cv) w9 = _ from hrun]))
      have hfr' : ∀ k, cv.ownBlock = some k → w8.heap.size ≤ k := hfr
      have hb89' : Below w8.heap.size w8 w9 := hb89
      have HBE := Lib.hid ((But.of_below hb89').trans (but_put (HM8.out.below hb89) ob))
      have HCV := Lib.hid (show IsB (setBlock w9 km ob) cv b from IsB.but (HM8.out.below hb89) (but_put (HM8.out.below hb89) ob) hcv)
      have HFR := Lib.hid hfr'
      obtain ⟨wE, hwE⟩ : ∃ wE, setBlock w9 km ob = wE := ⟨_, rfl⟩
      rw [hwE] at HR9 HBE HCV ⊢
      clear hfr hfr' hcv hb9 hb89'  hb89 hrun r1 hS9 hwE HSX HCL8
      have hrk : w.heap.size ≠ km := HM8.out.ne (HRV8.out.cell 0)
      have HRVE := Lib.hid (HRV8.out.but HBE.out hrk)
      have HIE := Lib.hid (HI8.out.but HBE.out HKM.out)
      have HLD := Lib.hid (HIE.out.loads 33 Tryd.isAgg33 (fun W => by rw [List.length_map, HDL.out]; exact Tryd.sizeOf33 W))
      have HTH := Lib.hid (HRVE.out.there 0 (cl d).toArray.size (by rw [List.size_toArray, List.length_map, HDL.out]; simp))
      have HSZ := Lib.hid (size33' HDL.out)
      have HON := Lib.hid (one33 d)
      have HBF := Lib.hid (But.setCells (k := w.heap.size) (cl d) 0 wE (But.refl _ _))
      have HF := Lib.hid (show Blk (wE.setCells w.heap.size 0 (cl d)) w.heap.size 33 (cl d) from by
        have h9 := Blk.setCells (cl d) 0 wE _ HRVE.out
        rwa [sets_all _ _ (by rw [List.length_map, HDL.out]; rfl)] at h9)
      have HBW := Lib.hid (((But.of_below (k := km) HB8.out).trans HBE.out).both HBF.out (Nat.le_refl _))
      have hlt := HRV8.out.lt
      have HST := Lib.hid (HS.out.put HM0.out HS0.out (HCV.out.off (fun j hj => by have := HFR.out j hj; omega) HBF.out) HR9.out (HBF.out.block km HR9.out.lt (Ne.symm hrk)) HBW.out)
      have HRES := Lib.hid (show PutRes d its b d true 0 (iput its d b) from by unfold PutRes; rw [HG1.out]; simp only; rw [if_neg hfull]; trivial)
      have HOK := Lib.hid (OwnKept.put HM0.out (HR9.out.of_block (HBF.out.block km HR9.out.lt (Ne.symm hrk))) (fun j hj => by have := HFR.out j hj; have := HB8.out.size; omega))
      clear hlt hrk HFR HCV HR9 HM0 HS0 HBE hfull hf' hu33 hi33
      go_upto_region 13 with fail
      go_wp2_with (first | (with_reducible refine wpList_ld rfl 33 (.tmp 9) rfl ⟨ki, 0, none⟩ rfl _ HLD.out ?_) | (refine wpList_store_mid rfl 33 (.tmp 4) (.tmp 57) rfl w.heap.size 0 (cl d).toArray rfl rfl HTH.out HSZ.out HON.out ?_))
      exact bodyPost_ret (v := .tuple #[vId d, .bool true, .int .i64 0]) (results_list (rs := [.cell 4 33, .tmp 5, .tmp 6]) rfl (by simp) (.cell w.heap.size 33 (cl d).toArray (0, 0) _ rfl HF.out Tryd.underlying33 rfl HSZ.out (.tmp (.tmp .nil)))) rfl ⟨d, true, 0, _, rfl, PutAny.of HRES.out, HST.out, HBW.out, HDL.out, HOK.out⟩
  · obtain ⟨Ao, co, hveq, hco, hCo⟩ := hov
    rw [g2] at HLK
    obtain ⟨zo, hz1, hz2⟩ := iget_mem g1
    have hbo : ∀ y ∈ old, Byte y := hz2 ▸ HIT.out zo hz1
    have HEQ := Lib.hid (fun W (hb : Below w7.heap.size w7 W) => equal_walk Ao A co c old b W (Kd.C_below hCo hb) (Kd.C_below HC.out (HB7.out.trans (hb.mono HB7.out.size))) hco (by exact HCN.out) hbo HBY.out)
    have HG1 := Lib.hid g1
    obtain ⟨No, hNo⟩ : ∃ No, old.length = No := ⟨_, rfl⟩
    rw [HN.out, hNo] at HEQ
    rw [hNo] at hveq
    subst hveq
    clear hm0 hs0 hm hs g1 g2 hz1 hz2 hbo hCo hco hNo
    refine wp_region_cls (by kernel_rfl) (by kernel_rfl) ?_
    repeat (first | go_big_quiet_skip | (go_big_quiet_want; refine quiet_ld 33 (.tmp 9) rfl ⟨ki, 0, none⟩ rfl (vId d) HL1.out ?_; (try simp only [Act.put, List.setIfInBounds_toArray, List.set_cons_zero, List.set_cons_succ]); go_big_quiet_on) | (go_big_quiet_want; refine quiet_look 70 (.tmp 26) (.tmp 27) true rfl (.map (some km)) (vId d) rfl rfl _ HLK.out ?_; (try simp only [Act.put, List.setIfInBounds_toArray, List.set_cons_zero, List.set_cons_succ]); go_big_quiet_on) | go_big_quiet_step (fail))
    refine wpQuiet_nil ?_
    rintro wy ⟨q, rfl⟩
    have HB8 := Lib.hid (HB7.out.trans (q.below.mono HB7.out.size))
    have HRV8 := Lib.hid (HRV7.out.below q.below)
    have HI8 := Lib.hid (HI.out.below q.below)
    have HEQ8 := Lib.hid (HEQ.out _ q.below)
    obtain ⟨w8, hw8⟩ : ∃ w8, q.at = w8 := ⟨_, rfl⟩
    rw [hw8] at HB8 HRV8 HI8 HEQ8 ⊢
    clear hw8 q HL1 HLK HS7 HI HRV7 HB7 c0 HEQ
    go_wp2_with fail
    refine HEQ8.out.mono ?_
    rintro e w9 ⟨rfl, hb9⟩
    have HB9 := Lib.hid (HB8.out.trans (hb9.mono HB8.out.size))
    have HRV9 := Lib.hid (HRV8.out.below hb9)
    have HI9 := Lib.hid (HI8.out.below hb9)
    by_cases heq : old = b
    · rw [decide_eq_true heq]
      have HLD := Lib.hid (HI9.out.loads 33 Tryd.isAgg33 (fun W => by rw [List.length_map, HDL.out]; exact Tryd.sizeOf33 W))
      have HTH := Lib.hid (HRV9.out.there 0 (cl d).toArray.size (by rw [List.size_toArray, List.length_map, HDL.out]; simp))
      have HSZ := Lib.hid (size33' HDL.out)
      have HON := Lib.hid (one33 d)
      have HF := Lib.hid (ret_id d HDL.out HRV9.out HB9.out (Nat.le_refl _))
      have HRES := Lib.hid (show PutRes d its b d false 0 its from by unfold PutRes; rw [HG1.out]; exact ⟨rfl, rfl, .inl ⟨heq, rfl, rfl⟩⟩)
      have HSF := Lib.hid (HS.out.below HF.out.2)
      clear hb9 heq HEQ8
      go_wp2_with (first | (with_reducible refine wpList_ld rfl 33 (.tmp 9) rfl ⟨ki, 0, none⟩ rfl _ HLD.out ?_) | (refine wpList_store_mid rfl 33 (.tmp 4) (.tmp 38) rfl w.heap.size 0 (cl d).toArray rfl rfl HTH.out HSZ.out HON.out ?_))
      exact bodyPost_ret (v := .tuple #[vId d, .bool false, .int .i64 0]) (results_list (rs := [.cell 4 33, .tmp 5, .tmp 6]) rfl (by simp) (.cell w.heap.size 33 (cl d).toArray (0, 0) _ rfl HF.out.1 Tryd.underlying33 rfl HSZ.out (.tmp (.tmp .nil)))) rfl ⟨d, false, 0, its, rfl, PutAny.of HRES.out, HSF.out, But.of_below HF.out.2, HDL.out, OwnKept.of_below HF.out.2⟩
    · rw [decide_eq_false heq]
      have HTH := Lib.hid (HRV9.out.there 0 (cl zid).toArray.size (by simp [zid]))
      have HSZ := Lib.hid (size33' (D := zid) (by decide))
      have HON := Lib.hid (one33 zid)
      have HF := Lib.hid (ret_id zid (by decide) HRV9.out HB9.out (Nat.le_refl _))
      have HRES := Lib.hid (show PutRes d its b zid false 45 its from by unfold PutRes; rw [HG1.out]; exact ⟨rfl, rfl, .inr ⟨heq, rfl⟩⟩)
      have HSF := Lib.hid (HS.out.below HF.out.2)
      clear hb9 heq HEQ8
      go_wp2_with (refine wpList_store_mid rfl 33 (.tmp 4) (.tmp 41) rfl w.heap.size 0 (cl zid).toArray rfl rfl HTH.out HSZ.out HON.out ?_)
      exact bodyPost_ret (v := .tuple #[vId zid, .bool false, .int .i64 45]) (results_list (rs := [.cell 4 33, .tmp 5, .tmp 6]) rfl (by simp) (.cell w.heap.size 33 (cl zid).toArray (0, 0) _ rfl HF.out.1 Tryd.underlying33 rfl HSZ.out (.tmp (.tmp .nil)))) rfl ⟨zid, false, 45, its, rfl, PutAny.of HRES.out, HSF.out, But.of_below HF.out.2, by decide, OwnKept.of_below HF.out.2⟩
end Go.Proofs.YtfbkkcigkpffiaaDoor.St
