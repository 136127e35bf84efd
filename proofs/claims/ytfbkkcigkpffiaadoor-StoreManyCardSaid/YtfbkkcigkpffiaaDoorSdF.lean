/- The digest of bytes: digest.Sum and object.Id tell one function of the bytes. -/
import Derived.Test.YtfbkkcigkpffiaaDoorSdE
namespace Go.Proofs.YtfbkkcigkpffiaaDoor.St
open Go Go.Lib Go.RowKit Go.ChangeMaps Go.Proofs.YtfbkkcigkpffiaaDoorW.PrintWords Go.Proofs.YtfbkkcigkpffiaaDoorW.PrintLast Go.Proofs.YtfbkkcigkpffiaaDoorW.PrintMore Go.Proofs.YtfbkkcigkpffiaaDoor.PStoreMany
set_option linter.unusedVariables false
set_option linter.unusedSimpArgs false
abbrev By := List UInt8
abbrev cl (l : By) : List Value := l.map (fun b => Value.int .u8 (b.toNat : Int))
/-- An id as a value. -/
abbrev vId (d : By) : Value := .agg (cl d).toArray
def Byte (x : Int) : Prop := 0 ≤ x ∧ x ≤ 255
theorem setb_bytes (x : Int) (i q : Nat) (L : List Int) (h : ∀ y ∈ L, Byte y) : ∀ y ∈ setb x i q L, Byte y := fun y hy => by
  rcases List.mem_or_eq_of_mem_set hy with h1 | rfl
  · exact h y h1
  · unfold Byte; omega
theorem idOf_bytes (tw : List Int) : ∀ y ∈ idOf tw, Byte y :=
  run_keep (fun L => ∀ y ∈ L, Byte y) (outw tw) (fun i L h => run_keep (fun L => ∀ y ∈ L, Byte y) (setb (tw.getD i 0) i) (fun q L h => setb_bytes _ i q L h) 4 L h) 8 zeros32 (fun y hy => by
    obtain ⟨_, rfl⟩ := List.mem_replicate.1 hy
    exact ⟨by decide, by decide⟩)
theorem idOf_len (tw : List Int) : (idOf tw).length = 32 := run_len (n := 32) (outw_len tw) 8 zeros32 (by decide)
def toBy (l : List Int) : By := l.map (fun x => UInt8.ofNat x.toNat)
theorem toBy_cl {l : List Int} (h : ∀ y ∈ l, Byte y) : cl (toBy l) = l.map b8 := by
  unfold toBy cl
  rw [List.map_map]
  refine List.map_congr_left (fun x hx => ?_)
  have h1 := h x hx
  unfold Byte at h1
  show Value.int .u8 ((UInt8.ofNat x.toNat).toNat : Int) = b8 x
  rw [UInt8.toNat_ofNat']
  congr 1
  omega
/-- What the tables make of bytes. -/
noncomputable def dig (bg : List Int) (rk : Nat → Int) (b : List Int) : By := toBy (sumOf rk (written rk { hs0 bg with al := 0 + b.length } b))
theorem dig_len (bg : List Int) (rk : Nat → Int) (b : List Int) : (dig bg rk b).length = 32 := by
  unfold dig toBy sumOf
  rw [List.length_map, idOf_len]
theorem dig_cl (bg : List Int) (rk : Nat → Int) (b : List Int) : cl (dig bg rk b) = (sumOf rk (written rk { hs0 bg with al := 0 + b.length } b)).map b8 := toBy_cl (idOf_bytes _)
theorem Src.of_C {k : Nat} {w : World} {A : Option Addr} {b : List Int} (h : Kd.C kB w A b.length b) (hk : w.heap.size ≤ k) (hl : b.length ≤ 140737488355328) : Src k w A b := ⟨hl, fun hp => by
  obtain ⟨ad, ha, hcell⟩ := h.2.2 hp
  have hc : ∀ j x, b[j]? = some x → w.cell? (ad.add j) = some (b8 x) := fun j x hj => by
    obtain ⟨cs, hl1, hk, hc⟩ := hcell j x hj
    have hk' : cs = [Value.int .u8 x] := hk
    subst hk'
    have := hc 0 _ rfl
    rwa [show (Kd.int .u8).sz = 1 from rfl, Nat.mul_one, Nat.add_zero] at this
  refine ⟨ad, ha, ?_, hc⟩
  have h1 := World.block_lt_of_cell? w _ (hc 0 _ (List.getElem?_eq_getElem hp))
  rw [add_blk] at h1
  omega⟩
theorem written_al {rk : Nat → Int} {s : Hs} {b : List Int} {t : Hs} (h : Ends rk s b t) : t.al = s.al := by
  obtain ⟨i, hi, _⟩ := h
  have h9 := run_keep (fun p : Hs × List Int => p.1.al = s.al) (fun _ => wstep rk) (fun _ p hp => by
    unfold wstep
    simp only
    split <;> exact hp) i (s, b) rfl
  rw [hi] at h9
  exact h9
theorem written_al' (rk : Nat → Int) (s : Hs) (b : List Int) : (written rk s b).al = s.al := by
  by_cases h : ∃ t, Ends rk s b t
  · obtain ⟨t, ht⟩ := h
    rw [ht.eq]; exact written_al ht
  · unfold written; rw [dif_neg h]
set_option maxRecDepth 100000 in
set_option maxHeartbeats 4000000 in
theorem sum_walk (bg : List Int) (rk : Nat → Int) (b : List Int) (A : Option Addr) (c : Nat) (w : World) (hT : Tabs bg rk w) (hC : Kd.C kB w A b.length b) (hc : b.length ≤ c) (hl : b.length ≤ 140737488355328) :
    Calls Tryd.prog 29 #[.slice A b.length c] w fun e w' => e = .returned (vId (dig bg rk b)) ∧ Below w.heap.size w w' := by
  obtain ⟨w1, hw1⟩ : ∃ w1, w.alloc (.cells (noughts 32).toArray 33) = w1 := ⟨_, rfl⟩
  have HB1 := Lib.hid (show Below w.heap.size w w1 from hw1 ▸ below_alloc (Below.refl _ _) _)
  have HRV := Lib.hid (show Blk w1 w.heap.size 33 (noughts 32) from hw1 ▸ Blk.new w 33 (noughts 32))
  have HW1 := Lib.hid hw1
  have HT := Lib.hid hT
  have HN1 := Lib.hid (new_walk bg rk w1 (hT.below HB1.out))
  have HC := Lib.hid hC
  have HCC := Lib.hid hc
  have HDL := Lib.hid (dig_cl bg rk b)
  obtain ⟨N, hN⟩ : ∃ N, b.length = N := ⟨_, rfl⟩
  have HN := Lib.hid hN
  rw [hN] at hl ⊢
  clear hw1 hT hC hc hN
  go_enter Tryd.func29, Tryd.ntmps29
  go_upto_region 1 with (fail)
  change Code.wp _ _ _ _ (w.alloc (.cells (noughts 32).toArray 33))
  rw [HW1.out]
  go_upto_region 2 with (go_at_call 42; refine HN1.out.mono ?_; rintro e w2 ⟨k, rfl, hh, hk, hb⟩; have HH2 := Lib.hid hh; have HK := Lib.hid hk; have HB2 := Lib.hid hb; clear hh hk hb)
  have HT2 := Lib.hid ((HT.out.below HB1.out).below HB2.out)
  have hk1 : k ≠ 1 := by
    have h1 : 1 < w.heap.size := World.block_lt_of_cell? w _ (HT.out.r 0 (by decide))
    have := HK.out
    have := HB1.out.size
    omega
  have hS : Src k w2 A b := (Src.of_C (k := k) (Kd.C_below HC.out HB1.out) HK.out (by rw [HN.out]; exact hl)).but (But.of_below HB2.out)
  have hwr := write_walk rk k (hs0 bg) b A c w2 HH2.out HT2.out.r hk1 (show (0 : Nat) < 64 from by decide) hS HCC.out (by rw [HN.out]; show 0 + N ≤ _; omega)
  have hal := written_al' rk { hs0 bg with al := (hs0 bg).al + b.length } b
  obtain ⟨T, hTw⟩ : ∃ T, written rk { hs0 bg with al := (hs0 bg).al + b.length } b = T := ⟨_, rfl⟩
  rw [hTw] at hwr hal
  rw [HN.out] at hwr
  have HWR := Lib.hid hwr
  have HAL := Lib.hid (show T.al ≤ 1152921504606846976 from by rw [hal, HN.out]; show 0 + N ≤ _; omega)
  have HTW := Lib.hid hTw
  clear hk1 hS hwr hal hTw
  go_upto_region 3 with (go_at_call 43; refine HWR.out.mono ?_; rintro e w3 ⟨rfl, hh, hv, hb⟩; have HH3 := Lib.hid hh; have HV3 := Lib.hid hv; have HB3 := Lib.hid hb; clear hh hv hb)
  have HB13 := Lib.hid (show Below w1.heap.size w1 w3 from HB2.out.trans (HB3.out.below_of HK.out HB2.out.size))
  have HSU := Lib.hid (sumh_walk bg rk k T w3 ((HT.out.below HB1.out).below HB13.out) HH3.out HV3.out HAL.out)
  have HDG := Lib.hid (show ((sumOf rk T).map b8) = cl (dig bg rk b) from by rw [HDL.out, ← HTW.out]; rfl)
  obtain ⟨D, hD⟩ : ∃ D, dig bg rk b = D := ⟨_, rfl⟩
  have HDD := Lib.hid hD
  rw [hD] at HDG
  have hlen : (cl D).length = 32 := by rw [List.length_map, ← hD]; exact dig_len bg rk b
  have hSZ : (Tryd.prog.info? 33).map (·.size) = some (cl D).toArray.size := by rw [List.size_toArray, hlen]; exact size33
  have hON : (cl D).toArray.all (·.oneCell') = true := all_oneCell_toArray (fun v hv => by obtain ⟨x, _, rfl⟩ := List.mem_map.1 hv; rfl)
  have HSZ := Lib.hid hSZ
  have HON := Lib.hid hON
  have HLEN := Lib.hid hlen
  rw [HDG.out] at HSU
  clear hD hlen hSZ hON
  go_wp2_with (first | (go_at_call 44; refine HSU.out.mono ?_; rintro e w4 ⟨rfl, hb⟩; have HB4 := Lib.hid hb; have HRV4 := Lib.hid ((HRV.out.below HB13.out).below hb); have HTH := Lib.hid (HRV4.out.there 0 (cl D).toArray.size (by rw [List.size_toArray, HLEN.out]; simp)); clear hb) | (refine wpList_store_mid rfl 33 (.tmp 2) (.tmp 9) rfl w.heap.size 0 (cl D).toArray rfl rfl HTH.out HSZ.out HON.out ?_))
  have HF := Lib.hid (show Blk (w4.setCells w.heap.size 0 (cl D)) w.heap.size 33 (cl D) from by
    have h9 := Blk.setCells (cl D) 0 w4 _ HRV4.out
    rwa [sets_all _ _ (by rw [HLEN.out]; rfl)] at h9)
  have HW4 := Lib.hid (show Below w.heap.size w w4 from HB1.out.trans ((HB13.out.trans (HB4.out.mono HB13.out.size)).mono HB1.out.size))
  have HFB := Lib.hid ((But.setCells (k := w.heap.size) (cl D) 0 w4 (But.of_below HW4.out)).new (Nat.le_refl _))
  exact bodyPost_ret (v := .agg (cl D).toArray) (results_single rfl (.cell w.heap.size 33 (cl D).toArray (0, 0) _ rfl HF.out Tryd.underlying33 rfl HSZ.out .nil)) rfl ⟨by rw [HDD.out], HFB.out⟩
/-- A result of 32 bytes that is stored in a variable of its own. -/
theorem ret_id {w w4 : World} {r : Nat} (D : By) (hD : D.length = 32) (hr : Blk w4 r 33 (noughts 32)) (hw : Below w.heap.size w w4) (hk : w.heap.size ≤ r) :
    Blk (w4.setCells r 0 (cl D)) r 33 (cl D) ∧ Below w.heap.size w (w4.setCells r 0 (cl D)) := by
  refine ⟨?_, (But.setCells (k := r) (cl D) 0 w4 (But.of_below hw)).new hk⟩
  have h9 := Blk.setCells (cl D) 0 w4 _ hr
  rwa [sets_all _ _ (by rw [List.length_map, hD]; rfl)] at h9
theorem size33' {D : By} (hD : D.length = 32) : (Tryd.prog.info? 33).map (·.size) = some (cl D).toArray.size := by rw [List.size_toArray, List.length_map, hD]; exact size33
theorem one33 (D : By) : (cl D).toArray.all (·.oneCell') = true := all_oneCell_toArray (fun v hv => by obtain ⟨x, _, rfl⟩ := List.mem_map.1 hv; rfl)
set_option maxRecDepth 100000 in
set_option maxHeartbeats 4000000 in
theorem id_walk (bg : List Int) (rk : Nat → Int) (b : List Int) (A : Option Addr) (c : Nat) (w : World) (hT : Tabs bg rk w) (hC : Kd.C kB w A b.length b) (hc : b.length ≤ c) (hl : b.length ≤ 140737488355328) :
    Calls Tryd.prog 13 #[.slice A b.length c] w fun e w' => e = .returned (vId (dig bg rk b)) ∧ Below w.heap.size w w' := by
  obtain ⟨w1, hw1⟩ : ∃ w1, w.alloc (.cells (noughts 32).toArray 33) = w1 := ⟨_, rfl⟩
  have HB1 := Lib.hid (show Below w.heap.size w w1 from hw1 ▸ below_alloc (Below.refl _ _) _)
  have HRV := Lib.hid (show Blk w1 w.heap.size 33 (noughts 32) from hw1 ▸ Blk.new w 33 (noughts 32))
  have HW1 := Lib.hid hw1
  have hsu := sum_walk bg rk b A c w1 (hT.below HB1.out) (Kd.C_below hC HB1.out) hc hl
  obtain ⟨N, hN⟩ : ∃ N, b.length = N := ⟨_, rfl⟩
  obtain ⟨D, hD⟩ : ∃ D, dig bg rk b = D := ⟨_, rfl⟩
  have HDL := Lib.hid (show D.length = 32 from hD ▸ dig_len bg rk b)
  rw [hN, hD] at hsu
  rw [hN, hD]
  have HSU := Lib.hid hsu
  have HSZ := Lib.hid (size33' HDL.out)
  have HON := Lib.hid (one33 D)
  clear hw1 hT hC hc hN hD hsu
  go_enter Tryd.func13, Tryd.ntmps13
  go_upto_region 1 with (fail)
  change Code.wp _ _ _ _ (w.alloc (.cells (noughts 32).toArray 33))
  rw [HW1.out]
  go_wp2_with (first | (go_at_call 29; refine HSU.out.mono ?_; rintro e w4 ⟨rfl, hb⟩; have HB4 := Lib.hid hb; have HRV4 := Lib.hid (HRV.out.below hb); have HTH := Lib.hid (HRV4.out.there 0 (cl D).toArray.size (by rw [List.size_toArray, List.length_map, HDL.out]; simp)); clear hb) | (refine wpList_store_mid rfl 33 (.tmp 2) (.tmp 4) rfl w.heap.size 0 (cl D).toArray rfl rfl HTH.out HSZ.out HON.out ?_))
  have HF := Lib.hid (ret_id D HDL.out HRV4.out (HB1.out.trans (HB4.out.mono HB1.out.size)) (Nat.le_refl _))
  exact bodyPost_ret (v := .agg (cl D).toArray) (results_single rfl (.cell w.heap.size 33 (cl D).toArray (0, 0) _ rfl HF.out.1 Tryd.underlying33 rfl HSZ.out .nil)) rfl ⟨rfl, HF.out.2⟩
end Go.Proofs.YtfbkkcigkpffiaaDoor.St
