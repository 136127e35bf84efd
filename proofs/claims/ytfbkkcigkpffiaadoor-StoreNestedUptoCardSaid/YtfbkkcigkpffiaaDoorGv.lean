/- The walk of StoreFull. -/
import Derived.Test.YtfbkkcigkpffiaaDoorGd
import Derived.Test.YtfbkkcigkpffiaaDoorPStoreManyx1
namespace Go.Proofs.YtfbkkcigkpffiaaDoor.St
open Go Go.Lib Go.RowKit Go.ChangeMaps Go.Proofs.YtfbkkcigkpffiaaDoorW.PrintWords Go.Proofs.YtfbkkcigkpffiaaDoorW.PrintLast Go.Proofs.YtfbkkcigkpffiaaDoorW.PrintMore Go.Proofs.YtfbkkcigkpffiaaDoor.PStoreMany
set_option linter.unusedVariables false
set_option linter.unusedSimpArgs false
theorem into_ok (n : Int) : ∃ m : Nat, m ≤ 8200 ∧ satchellaw4_into.f n 8201 = some (m : Int) := by
  unfold satchellaw4_into.f
  rw [if_neg (by decide)]
  have h1 : -8201 < Int.tmod n 8201 ∧ Int.tmod n 8201 < 8201 := by
    constructor
    · have := Int.lt_tmod_of_pos n (b := 8201) (by decide)
      omega
    · exact Int.tmod_lt_of_pos n (by decide)
  by_cases h : Int.tmod n 8201 < 0
  · rw [if_pos h]
    refine ⟨(Int.tmod n 8201 + 8201).toNat, by omega, ?_⟩
    congr 1
    rw [show wrap64 (Int.tmod n 8201 + 8201) = Int.tmod n 8201 + 8201 from by unfold wrap64; omega]
    omega
  · rw [if_neg h]
    exact ⟨(Int.tmod n 8201).toNat, by omega, by congr 1; omega⟩
/-- No key twice. -/
def Uq : Its → Prop
  | [] => True
  | (k, _) :: r => iget r k = none ∧ Uq r
theorem get_put_ne {a d : By} {b : List Int} (h : d ≠ a) : ∀ {its : Its}, iget (iput its d b) a = iget its a
  | [] => by simp [iput, iget, h]
  | (k, x) :: r => by
    unfold iput
    by_cases e : k = d
    · rw [if_pos e]
      subst e
      simp [iget, h]
    · rw [if_neg e]
      unfold iget
      rw [get_put_ne h]
theorem get_put {d : By} {b : List Int} : ∀ {its : Its}, iget (iput its d b) d = some b
  | [] => by simp [iput, iget]
  | (k, x) :: r => by
    unfold iput
    by_cases e : k = d
    · rw [if_pos e]; simp [iget, e]
    · rw [if_neg e]; unfold iget; rw [if_neg e]; exact get_put
theorem Uq.put {d : By} {b : List Int} : ∀ {its : Its}, Uq its → Uq (iput its d b)
  | [], _ => ⟨rfl, trivial⟩
  | (k, x) :: r, h => by
    unfold iput
    by_cases e : k = d
    · rw [if_pos e]; exact h
    · rw [if_neg e]; exact ⟨by rw [get_put_ne (fun q => e q.symm)]; exact h.1, h.2.put⟩
theorem get_del {d : By} : ∀ {its : Its}, Uq its → iget (idel its d) d = none
  | [], _ => rfl
  | (k, x) :: r, h => by
    unfold idel
    by_cases e : k = d
    · rw [if_pos e, ← e]; exact h.1
    · rw [if_neg e]; unfold iget; rw [if_neg e]; exact get_del h.2
theorem len_put {d : By} {b : List Int} : ∀ {its : Its}, iget its d = none → (iput its d b).length = its.length + 1
  | [], _ => rfl
  | (k, x) :: r, h => by
    unfold iget at h
    by_cases e : k = d
    · rw [if_pos e] at h; cases h
    · rw [if_neg e] at h
      unfold iput
      rw [if_neg e]
      simp [len_put h]
theorem len_del {d : By} : ∀ {its : Its}, (iget its d).isSome = true → (idel its d).length + 1 = its.length
  | [], h => by cases h
  | (k, x) :: r, h => by
    unfold iget at h
    unfold idel
    by_cases e : k = d
    · rw [if_pos e]; rfl
    · rw [if_neg e] at h ⊢
      simp [len_del h]
def Bt (its : Its) : Prop := ∀ x ∈ its, ∀ y ∈ x.2, Byte y
theorem Bt.put {d : By} {b : List Int} (hb : ∀ y ∈ b, Byte y) : ∀ {its : Its}, Bt its → Bt (iput its d b)
  | [], _ => fun x hx y hy => by
    simp [iput] at hx
    subst hx
    exact hb y hy
  | (k, z) :: r, h => fun x hx y hy => by
    unfold iput at hx
    by_cases e : k = d
    · rw [if_pos e] at hx
      rcases List.mem_cons.1 hx with hx | hx
      · subst hx; exact hb y hy
      · exact h x (List.mem_cons_of_mem _ hx) y hy
    · rw [if_neg e] at hx
      rcases List.mem_cons.1 hx with hx | hx
      · exact h x (hx ▸ List.mem_cons_self) y hy
      · exact Bt.put hb (fun x hx => h x (List.mem_cons_of_mem _ hx)) x hx y hy
theorem del_mem {x : By × List Int} {d : By} : ∀ {its : Its}, x ∈ idel its d → x ∈ its
  | [], h => by cases h
  | (a, y) :: r, h => by
    unfold idel at h
    by_cases e : a = d
    · rw [if_pos e] at h; exact List.mem_cons_of_mem _ h
    · rw [if_neg e] at h
      rcases List.mem_cons.1 h with h | h
      · rw [h]; exact List.mem_cons_self
      · exact List.mem_cons_of_mem _ (del_mem h)
theorem Tabs.but {bg : List Int} {rk : Nat → Int} {k : Nat} {w w' : World} (h : Tabs bg rk w) (hb : But k w w') (hk : 3 < k) : Tabs bg rk w' :=
  ⟨h.lb, fun t ht => cell_but hb (h.b t ht) (by show 0 ≠ k; omega), fun t ht => cell_but hb (h.r t ht) (by show 1 ≠ k; omega)⟩
/-- The i-th object. -/
def enc (sd : Int) (i : Nat) : List Int := [1, (i : Int) % 256, (i : Int) / 256, sd % 256, sd / 256 % 256]
theorem enc_byte (sd : Int) (i : Nat) (hi : i ≤ 8200) : ∀ y ∈ enc sd i, Byte y := by
  intro y hy
  simp only [enc, List.mem_cons, List.not_mem_nil, or_false] at hy
  unfold Byte
  rcases hy with rfl | rfl | rfl | rfl | rfl <;> omega
/-- The turn, in plain words. -/
theorem turn_next {bg : List Int} {rk : Nat → Int} {sd : Int} {i : Nat} {its its' : Its} {nw : Bool} {er : Nat} (hi : i ≤ 8200)
    (hc : ((iget its (dig bg rk (enc sd i))).isSome = true ∧ its' = its ∧ nw = false ∧ (er = 0 ∨ er = 45)) ∨
    ((iget its (dig bg rk (enc sd i))).isSome = false ∧ its.length = 8192 ∧ its' = its ∧ nw = false ∧ er = 44) ∨
    ((iget its (dig bg rk (enc sd i))).isSome = false ∧ its.length < 8192 ∧ its' = iput its (dig bg rk (enc sd i)) (enc sd i) ∧ nw = true ∧ er = 0 ∧ its'.length = its.length + 1))
    (hu : Uq its) (hl : its.length ≤ 8192) (h0 : i = 0 → its = []) (hf : 0 < i → (iget its (dig bg rk (enc sd 0))).isSome = true) (hb : Bt its) :
    Uq its' ∧ its'.length ≤ 8192 ∧ (iget its' (dig bg rk (enc sd 0))).isSome = true ∧ Bt its' := by
  have hfst : ∀ j : Its, (iget its (dig bg rk (enc sd i))).isSome = true → (iget its (dig bg rk (enc sd 0))).isSome = true := fun _ h => by
    by_cases e : i = 0
    · subst e; exact h
    · exact hf (by omega)
  rcases hc with ⟨h1, rfl, _, _⟩ | ⟨h1, h2, rfl, _, _⟩ | ⟨h1, h2, rfl, _, _, h3⟩
  · exact ⟨hu, hl, hfst [] h1, hb⟩
  · refine ⟨hu, hl, hf ?_, hb⟩
    by_cases e : i = 0
    · rw [h0 e] at h2; cases h2
    · omega
  · refine ⟨hu.put, by omega, ?_, hb.put (enc_byte sd i hi)⟩
    by_cases e : dig bg rk (enc sd i) = dig bg rk (enc sd 0)
    · rw [← e, get_put]; rfl
    · rw [get_put_ne e]
      refine hf ?_
      by_cases e0 : i = 0
      · subst e0; exact absurd rfl e
      · omega
/-- What a Put does, in three cases. -/
theorem put_cases {d di : By} {its its' : Its} {b : List Int} {nw : Bool} {er : Nat} (h : PutRes d its b di nw er its') (hl : its.length ≤ 8192) :
    ((iget its d).isSome = true ∧ its' = its ∧ nw = false ∧ (er = 0 ∨ er = 45)) ∨
    ((iget its d).isSome = false ∧ its.length = 8192 ∧ its' = its ∧ nw = false ∧ er = 44) ∨
    ((iget its d).isSome = false ∧ its.length < 8192 ∧ its' = iput its d b ∧ nw = true ∧ er = 0 ∧ its'.length = its.length + 1) := by
  unfold PutRes at h
  cases hg : iget its d with
  | some old =>
    rw [hg] at h
    obtain ⟨h1, h2, h3⟩ := h
    exact .inl ⟨rfl, h1, h2, h3.imp (fun q => q.2.2) (fun q => q.2)⟩
  | none =>
    rw [hg] at h
    simp only at h
    by_cases hf : 8192 ≤ its.length
    · rw [if_pos hf] at h
      exact .inr (.inl ⟨rfl, by omega, h.1, h.2.1, h.2.2⟩)
    · rw [if_neg hf] at h
      exact .inr (.inr ⟨rfl, by omega, h.1, h.2.1, h.2.2.1, by rw [h.1, len_put hg]⟩)
set_option maxRecDepth 100000 in
set_option maxHeartbeats 4000000 in
theorem full_walk (bg : List Int) (rk : Nat → Int) (sd n : Int) (w : World) (hT : Tabs bg rk w) (he : w.cell? ⟨3, 0, none⟩ = some (.int .i64 0)) :
    Calls Tryd.prog 3 #[.agg #[.int .u64 sd, .int .i64 n]] w fun e w' => e = .returned (.bool true) ∧ Below w.heap.size w w' := by
  have HT := Lib.hid hT
  have HE := Lib.hid he
  obtain ⟨w1, hw1⟩ : ∃ w1, w.alloc (.cells [Value.int .u64 sd, Value.int .i64 n].toArray 24) = w1 := ⟨_, rfl⟩
  have HW1 := Lib.hid hw1
  have HB1 := Lib.hid (show Below w.heap.size w w1 from hw1 ▸ below_alloc (Below.refl _ _) _)
  have HP := Lib.hid (show Blk w1 w.heap.size 24 [Value.int .u64 sd, Value.int .i64 n] from hw1 ▸ Blk.new w 24 [Value.int .u64 sd, Value.int .i64 n])
  have HN := Lib.hid (snew_walk w1)
  have HT1 := Lib.hid (hT.below HB1.out)
  have HE1 := Lib.hid (pw_cell_below HB1.out he)
  clear hT he hw1
  go_enter Tryd.func3, Tryd.ntmps3
  go_upto_region 1 with fail
  change Code.wp _ _ _ _ (w.alloc (.cells [Value.int .u64 sd, Value.int .i64 n].toArray 24))
  rw [HW1.out]
  go_wp2_with fail
  refine HN.out.mono ?_
  rintro e w2 ⟨ks, km, rfl, hks, hkm, hs, hb⟩
  have HKM := Lib.hid hkm
  have HS := Lib.hid hs
  have HB := Lib.hid hb
  have HLV := Lib.hid (lives_walk bg rk w2 (HT1.out.below hb) (pw_cell_below hb HE1.out))
  clear hks hkm hs hb HN
  go_wp2_with fail
  refine HLV.out.mono ?_
  rintro e w3 ⟨rfl, hb3⟩
  have HB3 := Lib.hid (HB.out.trans (hb3.mono HB.out.size))
  have HS3 := Lib.hid (HS.out.below hb3)
  have HP3 := Lib.hid (HP.out.below HB3.out)
  have HT3 := Lib.hid (HT1.out.below HB3.out)
  have HE3 := Lib.hid (pw_cell_below HB3.out HE1.out)
  have c0 : w3.cell? ⟨w.heap.size, 0, none⟩ = some (.int .u64 sd) := HP3.out.cell 0
  have c1 : w3.cell? ⟨w.heap.size, 1, none⟩ = some (.int .i64 n) := HP3.out.cell 1
  clear hb3 HS HLV
  go_wp2_with fail
  obtain ⟨m, hm, hin⟩ := into_ok n
  refine (satchellaw4_into.calls n 8201 m w3 hin).mono ?_
  rintro e w4 ⟨rfl, hd4⟩
  have HB4 := Lib.hid (HB3.out.trans (hd4.below.mono HB3.out.size))
  have HS4 := Lib.hid (HS3.out.below hd4.below)
  have HP4 := Lib.hid (HP.out.below HB4.out)
  have HT4 := Lib.hid (HT1.out.below HB4.out)
  have HE4 := Lib.hid (pw_cell_below HB4.out HE1.out)
  have hpk : w.heap.size ≠ km := by
    have h1 := HP.out.lt
    have h2 := HKM.out
    omega
  have HPK := Lib.hid hpk
  have HK3 := Lib.hid (show 3 < km from by
    have h1 := World.block_lt_of_cell? w1 _ HE1.out
    have h2 := HKM.out
    simp only at h1
    omega)
  clear hd4 HS3 HP3 HT3 HE3 HB3 c0 c1 hin hpk
  go_wp2_with fail
  go_loopw [5] (fun v5 wr => ∃ (i : Nat) (its : Its), i ≤ m ∧ v5 = .int .i64 i ∧ StoreAt wr ks km its ∧ Uq its ∧ its.length ≤ 8192 ∧ (i = 0 → its = []) ∧ (0 < i → (iget its (dig bg rk (enc sd 0))).isSome = true) ∧ Bt its ∧ But km w4 wr) (fun v5 _ => m - (RowKit.intOf v5).toNat)
  case atStart => exact ⟨0, [], Nat.zero_le _, rfl, HS4.out, trivial, Nat.zero_le _, fun _ => rfl, fun h => absurd h (by decide), fun x hx => (by cases hx), But.refl _ _⟩
  case round =>
    obtain ⟨i, its, him, rfl, hs, hu, hlen, hz, hfst, hbt, hbut⟩ := hrel
    have HZ := Lib.hid hz
    have HBT := Lib.hid hbt
    have HBr := Lib.hid hbut
    have HSr := Lib.hid hs
    have HU := Lib.hid hu
    have HF := Lib.hid hfst
    have HLN := Lib.hid hlen
    have c0 : wr.cell? ⟨w.heap.size, 0, none⟩ = some (.int .u64 sd) := (HP4.out.but hbut HPK.out).cell 0
    clear hs hu hlen hz hfst hbt hbut
    by_cases hi : i < m
    · have hi' : (i : Int) < (m : Int) := by omega
      go_wp2_with fail
      have HC := Lib.hid (lit_C wr (enc sd i) (by simp [enc]))
      have HBA := Lib.hid (show Below wr.heap.size wr (wr.alloc (.cells ((enc sd i).map b8).toArray 5)) from below_alloc (Below.refl _ _) _)
      obtain ⟨wa, hwa⟩ : ∃ wa, wr.alloc (.cells ((enc sd i).map b8).toArray 5) = wa := ⟨_, rfl⟩
      rw [hwa] at HC HBA
      have HWA := Lib.hid hwa
      clear hwa
      change Calls Tryd.prog 13 #[.slice (some ⟨wr.heap.size, 0, none⟩) (enc sd i).length 5] (wr.alloc (.cells ((enc sd i).map b8).toArray 5)) _
      rw [HWA.out]
      have HTa := Lib.hid ((HT4.out.but HBr.out HK3.out).below HBA.out)
      have HEa := Lib.hid (pw_cell_below HBA.out (cell_but HBr.out HE4.out (by have := HK3.out; show 3 ≠ km; omega)))
      have HEL := Lib.hid (show (enc sd i).length ≤ 5 from Nat.le_refl 5)
      have HEB := Lib.hid (enc_byte sd i (by omega))
      obtain ⟨b, hb⟩ : ∃ b, enc sd i = b := ⟨_, rfl⟩
      have HEN := Lib.hid hb
      have HTL := Lib.hid (show b = 1 :: b.tail from by rw [← hb]; rfl)
      have HE5 := Lib.hid (show b.length = 5 from by rw [← hb]; rfl)
      rw [hb] at HC HEL HEB ⊢
      obtain ⟨d, hd⟩ : ∃ d, dig bg rk b = d := ⟨_, rfl⟩
      have HD := Lib.hid hd
      have HDL := Lib.hid (show d.length = 32 from hd ▸ dig_len bg rk b)
      have HID := Lib.hid (id_walk bg rk b _ 5 wa HTa.out HC.out HEL.out (by have := HE5.out; omega))
      rw [hd] at HID
      clear hb hd HWA
      refine HID.out.mono ?_
      rintro e w5 ⟨rfl, hb5⟩
      have HB5 := Lib.hid (HBA.out.trans (hb5.mono HBA.out.size))
      have HS5 := Lib.hid (HSr.out.below HB5.out)
      have HHA := Lib.hid (has_walk ks km its d HDL.out w5 HS5.out)
      obtain ⟨x, hx⟩ : ∃ x, (iget its d).isSome = x := ⟨_, rfl⟩
      have HX := Lib.hid hx
      rw [hx] at HHA
      have hb5s := Lib.hid hb5
      clear hb5 HID hx
      go_wp2_with fail
      refine HHA.out.mono ?_
      rintro e w6 ⟨rfl, hb6⟩
      have HB6 := Lib.hid (HB5.out.trans (hb6.mono HB5.out.size))
      have HB6a := Lib.hid (hb5s.out.trans (hb6.mono hb5s.out.size))
      have HS6 := Lib.hid (HSr.out.below HB6.out)
      have HLE := Lib.hid (len_walk ks km its w6 HS6.out)
      obtain ⟨L, hL⟩ : ∃ L, its.length = L := ⟨_, rfl⟩
      have HL := Lib.hid hL
      rw [hL] at HLE HLN
      clear hb6 HHA HS5 hL
      go_wp2_with fail
      refine HLE.out.mono ?_
      rintro e w7 ⟨rfl, rfl⟩
      go_wp2_with fail
      have HPU := Lib.hid (put_walk bg rk ks km its b.tail _ 5 w6 (HTa.out.below HB6a.out) (pw_cell_below HB6a.out HEa.out) HS6.out (HTL.out ▸ Kd.C_below HC.out HB6a.out) (by rw [← HTL.out, HE5.out]; exact Nat.le_refl _) (by rw [← HTL.out, HE5.out]; decide) (by rw [← HTL.out]; exact HEB.out) HBT.out)
      rw [← HTL.out, HE5.out, HD.out] at HPU
      clear HLE
      refine HPU.out.mono ?_
      rintro e w8 ⟨di, nw, er, its', rfl, hres, hs8, hbut8, hdi⟩
      have HCASE := Lib.hid (put_cases hres (by rw [HL.out]; exact HLN.out))
      have HS8 := Lib.hid hs8
      have HB8 := Lib.hid ((But.of_below (k := km) HB6.out).trans hbut8)
      have HDI := Lib.hid hdi
      clear hres hs8 hbut8 hdi HPU
      obtain ⟨w9, hw9⟩ : ∃ w9, w8.alloc (.cells (noughts 32).toArray 33) = w9 := ⟨_, rfl⟩
      have HW9 := Lib.hid hw9
      have HI9 := Lib.hid (show Blk w9 w8.heap.size 33 (noughts 32) from hw9 ▸ Blk.new w8 33 (noughts 32))
      have HB9 := Lib.hid (show Below w8.heap.size w8 w9 from hw9 ▸ below_alloc (Below.refl _ _) _)
      have HTH := Lib.hid (HI9.out.there 0 (cl di).toArray.size (by rw [List.size_toArray, List.length_map, HDI.out]; simp))
      have HSZ := Lib.hid (size33' HDI.out)
      have HON := Lib.hid (one33 di)
      have HI10 := Lib.hid (ret_id di HDI.out HI9.out HB9.out (Nat.le_refl _))
      clear hw9
      go_upto_region 12 with (first | ((change wpList _ _ _ _ _ (w8.alloc (.cells (noughts 32).toArray 33))); rw [HW9.out]; refine wpList_store_mid rfl 33 (.tmp 9) (.tmp 58) rfl w8.heap.size 0 (cl di).toArray rfl rfl HTH.out HSZ.out HON.out ?_))
      obtain ⟨w10, hw10⟩ : ∃ w10, w9.setCells w8.heap.size 0 (cl di) = w10 := ⟨_, rfl⟩
      rw [hw10] at HI10 ⊢
      have HSx := Lib.hid (HS8.out.below HI10.out.2)
      have HBx := Lib.hid ((HBr.out.trans HB8.out).trans (But.of_below HI10.out.2))
      clear hw10 HI10 HTH HSZ HON HI9 HB9 HW9 HS8 HB8
      have HNX := Lib.hid (turn_next (bg := bg) (rk := rk) (sd := sd) (i := i) (its := its) (its' := its') (nw := nw) (er := er) (by omega) (by rw [HEN.out, HD.out]; exact HCASE.out) HU.out (by rw [HL.out]; exact HLN.out) HZ.out HF.out HBT.out)
      rcases HCASE.out with ⟨h1, _, rfl, rfl | rfl⟩ | ⟨h1, h2, h3, rfl, rfl⟩ | ⟨h1, h2, h3, rfl, rfl, h4⟩
      · obtain rfl : x = true := HX.out.symm.trans h1
        clear h1 HCASE
        go_wp2_with fail
        refine (num_walk 0 w10).mono ?_
        rintro e w11 ⟨rfl, hd11⟩
        have HBy := Lib.hid (HBx.out.trans (But.of_below hd11.below))
        have HSy := Lib.hid (HSx.out.below hd11.below)
        clear hd11
        go_wp2_with fail
        go_roundw
        case rel => exact ⟨i + 1, its', by omega, by simp, HSy.out, HNX.out.1, HNX.out.2.1, fun h => absurd h (by omega), fun _ => HNX.out.2.2.1, HNX.out.2.2.2, HBy.out⟩
        all_goals (simp only [RowKit.intOf]; omega)
      · obtain rfl : x = true := HX.out.symm.trans h1
        clear h1 HCASE
        go_wp2_with fail
        refine (num_walk 45 w10).mono ?_
        rintro e w11 ⟨rfl, hd11⟩
        have HBy := Lib.hid (HBx.out.trans (But.of_below hd11.below))
        have HSy := Lib.hid (HSx.out.below hd11.below)
        clear hd11
        go_wp2_with fail
        refine (num_walk 45 w11).mono ?_
        rintro e w12 ⟨rfl, hd12⟩
        have HBz := Lib.hid (HBy.out.trans (But.of_below hd12.below))
        have HSz := Lib.hid (HSy.out.below hd12.below)
        clear hd12
        go_wp2_with fail
        go_roundw
        case rel => exact ⟨i + 1, its', by omega, by simp, HSz.out, HNX.out.1, HNX.out.2.1, fun h => absurd h (by omega), fun _ => HNX.out.2.2.1, HNX.out.2.2.2, HBz.out⟩
        all_goals (simp only [RowKit.intOf]; omega)
      · obtain rfl : x = false := HX.out.symm.trans h1
        have hL1 : ((L : Int) == 8192) = true := by
          have : L = 8192 := HL.out.symm.trans h2
          rw [beq_iff_eq]
          omega
        have HL' := Lib.hid (show ((its'.length : Nat) : Int) = 8192 from by rw [h3]; omega)
        rw [hL1]
        clear h1 h2 h3 HCASE hL1
        go_wp2_with fail
        refine (num_walk 44 w10).mono ?_
        rintro e w11 ⟨rfl, hd11⟩
        have HBy := Lib.hid (HBx.out.trans (But.of_below hd11.below))
        have HSy := Lib.hid (HSx.out.below hd11.below)
        clear hd11
        go_wp2_with fail
        have HLE := Lib.hid (len_walk ks km its' w11 HSy.out)
        rw [HL'.out] at HLE
        refine HLE.out.mono ?_
        rintro e w12 ⟨rfl, rfl⟩
        go_wp2_with fail
        go_roundw
        case rel => exact ⟨i + 1, its', by omega, by simp, HSy.out, HNX.out.1, HNX.out.2.1, fun h => absurd h (by omega), fun _ => HNX.out.2.2.1, HNX.out.2.2.2, HBy.out⟩
        all_goals (simp only [RowKit.intOf]; omega)
      · obtain rfl : x = false := HX.out.symm.trans h1
        have hL1 : ((L : Int) == 8192) = false := by
          have : L < 8192 := by rw [← HL.out]; exact h2
          rw [beq_eq_false_iff_ne]
          omega
        rw [hL1]
        clear h1 h2 h3 h4 HCASE hL1
        go_wp2_with fail
        refine (num_walk 0 w10).mono ?_
        rintro e w11 ⟨rfl, hd11⟩
        have HBy := Lib.hid (HBx.out.trans (But.of_below hd11.below))
        have HSy := Lib.hid (HSx.out.below hd11.below)
        clear hd11
        go_wp2_with fail
        go_roundw
        case rel => exact ⟨i + 1, its', by omega, by simp, HSy.out, HNX.out.1, HNX.out.2.1, fun h => absurd h (by omega), fun _ => HNX.out.2.2.1, HNX.out.2.2.2, HBy.out⟩
        all_goals (simp only [RowKit.intOf]; omega)
    · have hi2 : ¬ (i : Int) < (m : Int) := by omega
      go_wp2_with fail
      have HLE := Lib.hid (len_walk ks km its wr HSr.out)
      obtain ⟨L, hL⟩ : ∃ L, its.length = L := ⟨_, rfl⟩
      have HL := Lib.hid hL
      rw [hL] at HLE HLN
      clear hL
      refine HLE.out.mono ?_
      rintro e wr' ⟨rfl, rfl⟩
      by_cases hLl : L < 8192
      · have hLi : (L : Int) < 8192 := by omega
        go_wp2_with fail
        go_ret
        exact ⟨rfl, HB1.out.trans ((((But.of_below HB4.out).trans HBr.out).new HKM.out).mono HB1.out.size)⟩
      · have hLi : ¬ (L : Int) < 8192 := by omega
        have HL8 := Lib.hid (show L = 8192 from by have := HLN.out; omega)
        have hi0 : 0 < i := by
          by_cases e : i = 0
          · have h1 := HL.out
            rw [HZ.out e] at h1
            have h2 := HL8.out
            simp at h1
            omega
          · omega
        have hg0 := HF.out hi0
        clear hi0 hLl
        go_wp2_with fail
        have HC := Lib.hid (lit_C wr (enc sd 0) (by simp [enc]))
        have HBA := Lib.hid (show Below wr.heap.size wr (wr.alloc (.cells ((enc sd 0).map b8).toArray 5)) from below_alloc (Below.refl _ _) _)
        have HNE := Lib.hid (show wr.heap.size ≠ km from by have := HSr.out.map; obtain ⟨kv, hm9, _⟩ := this; have := hm9.lt; omega)
        obtain ⟨wa, hwa⟩ : ∃ wa, wr.alloc (.cells ((enc sd 0).map b8).toArray 5) = wa := ⟨_, rfl⟩
        rw [hwa] at HC HBA
        have HWA := Lib.hid hwa
        clear hwa
        change Calls Tryd.prog 15 #[_, .slice (some ⟨wr.heap.size, 0, none⟩) (enc sd 0).length 5] (wr.alloc (.cells ((enc sd 0).map b8).toArray 5)) _
        rw [HWA.out]
        have HTb := Lib.hid ((HT4.out.but HBr.out HK3.out).below HBA.out)
        have HEb := Lib.hid (pw_cell_below HBA.out (cell_but HBr.out HE4.out (by have := HK3.out; show 3 ≠ km; omega)))
        have HEL := Lib.hid (show (enc sd 0).length ≤ 5 from Nat.le_refl 5)
        have HEB := Lib.hid (enc_byte sd 0 (by omega))
        obtain ⟨b, hb⟩ : ∃ b, enc sd 0 = b := ⟨_, rfl⟩
        have HTL := Lib.hid (show b = 1 :: b.tail from by rw [← hb]; rfl)
        have HE5 := Lib.hid (show b.length = 5 from by rw [← hb]; rfl)
        rw [hb] at HC HEL HEB hg0 ⊢
        obtain ⟨d, hd⟩ : ∃ d, dig bg rk b = d := ⟨_, rfl⟩
        have HD := Lib.hid hd
        have HDL := Lib.hid (show d.length = 32 from hd ▸ dig_len bg rk b)
        rw [hd] at hg0
        have HG0 := Lib.hid hg0
        have HSa := Lib.hid (HSr.out.below HBA.out)
        have HMA := Lib.hid HSa.out.map
        have HCb := Lib.hid (fun W (hbw : But km wa W) => (show Kd.C kB W (some ⟨wr.heap.size, 0, none⟩) b.length b from by
          obtain ⟨kv, hm9, _⟩ := HMA.out
          exact C_but hm9 hbw HC.out))
        have HPU := Lib.hid (put_walk bg rk ks km its b.tail _ 5 wa HTb.out HEb.out HSa.out (HTL.out ▸ HC.out) (by rw [← HTL.out, HE5.out]; exact Nat.le_refl _) (by rw [← HTL.out, HE5.out]; decide) (by rw [← HTL.out]; exact HEB.out) HBT.out)
        rw [← HTL.out, HE5.out, HD.out] at HPU
        rw [HE5.out]
        clear HLE hb hd hg0 HWA
        refine HPU.out.mono ?_
        rintro e w8 ⟨di, nw, er, its', rfl, hres, hs8, hbut8, hdi⟩
        obtain ⟨hie, rfl, her⟩ : its' = its ∧ nw = false ∧ (er = 0 ∨ er = 45) := by
          rcases put_cases hres (by rw [HL.out]; exact HLN.out) with ⟨_, h2, h3, h4⟩ | ⟨h1, _⟩ | ⟨h1, _⟩
          · exact ⟨h2, h3, h4⟩
          · rw [HG0.out] at h1; cases h1
          · rw [HG0.out] at h1; cases h1
        have hie := hie.symm
        subst hie
        have HS8 := Lib.hid hs8
        have HB8 := Lib.hid hbut8
        have HDI := Lib.hid hdi
        clear hres hs8 hbut8 hdi HPU

        obtain ⟨wp, hwp⟩ : ∃ wp, w8.alloc (.cells (noughts 32).toArray 33) = wp := ⟨_, rfl⟩
        have HWP := Lib.hid hwp
        have HIP := Lib.hid (show Blk wp w8.heap.size 33 (noughts 32) from hwp ▸ Blk.new w8 33 (noughts 32))
        have HBP := Lib.hid (show Below w8.heap.size w8 wp from hwp ▸ below_alloc (Below.refl _ _) _)
        have HTH := Lib.hid (HIP.out.there 0 (cl di).toArray.size (by rw [List.size_toArray, List.length_map, HDI.out]; simp))
        have HSZ := Lib.hid (size33' HDI.out)
        have HON := Lib.hid (one33 di)
        have HIQ := Lib.hid (ret_id di HDI.out HIP.out HBP.out (Nat.le_refl _))
        clear hwp
        go_upto_region 24 with (first | ((change wpList _ _ _ _ _ (w8.alloc (.cells (noughts 32).toArray 33))); rw [HWP.out]; refine wpList_store_mid rfl 33 (.tmp 13) (.tmp 110) rfl w8.heap.size 0 (cl di).toArray rfl rfl HTH.out HSZ.out HON.out ?_))
        obtain ⟨wq, hwq⟩ : ∃ wq, wp.setCells w8.heap.size 0 (cl di) = wq := ⟨_, rfl⟩
        rw [hwq] at HIQ ⊢

        have HSx := Lib.hid (HS8.out.below HIQ.out.2)
        have HBx := Lib.hid (HB8.out.trans (But.of_below HIQ.out.2))
        clear hwq HIQ HTH HSZ HON HIP HBP HWP HS8 HB8
        rcases her with rfl | rfl
        · go_wp2_with fail
          refine (num_walk 0 wq).mono ?_
          rintro e wn ⟨rfl, hdn⟩
          have HBn := Lib.hid (HBx.out.trans (But.of_below hdn.below))
          have HSn := Lib.hid (HSx.out.below hdn.below)
          clear hdn
          go_wp2_with fail

          have HIDx := Lib.hid (id_walk bg rk b _ 5 wn (HTb.out.but HBn.out HK3.out) (HCb.out wn HBn.out) HEL.out (by have := HE5.out; omega))
          rw [HE5.out, HD.out] at HIDx
          refine HIDx.out.mono ?_
          rintro e wi ⟨rfl, hbi⟩
          have HBi := Lib.hid (HBn.out.trans (But.of_below hbi))
          have HSi := Lib.hid (HSn.out.below hbi)
          have HRM := Lib.hid (remove_walk ks km its d HDL.out wi HSi.out)
          rw [HG0.out] at HRM
          clear hbi HIDx
          go_wp2_with fail
          refine HRM.out.mono ?_
          rintro e wj ⟨rfl, hsj, hbj⟩
          have HBj := Lib.hid (HBi.out.trans hbj)
          have HSj := Lib.hid hsj
          clear hsj hbj HRM
          go_wp2_with fail
          have HPV := Lib.hid (put_walk bg rk ks km (idel its d) b.tail _ 5 wj (HTb.out.but HBj.out HK3.out) (cell_but HBj.out HEb.out (by have := HK3.out; show 3 ≠ km; omega)) HSj.out (HTL.out ▸ HCb.out wj HBj.out) (by rw [← HTL.out, HE5.out]; exact Nat.le_refl _) (by rw [← HTL.out, HE5.out]; decide) (by rw [← HTL.out]; exact HEB.out) (fun x hx => HBT.out x (del_mem hx)))
          rw [← HTL.out, HE5.out, HD.out] at HPV
          refine HPV.out.mono ?_
          rintro e wk ⟨di2, nw2, er2, its2, rfl, hres2, hsk, hbk, hdi2⟩
          have hdel : (idel its d).length + 1 = its.length := len_del HG0.out
          rcases put_cases hres2 (by have := HLN.out; have := HL.out; omega) with ⟨h1, _⟩ | ⟨h1, h2, _⟩ | ⟨h1, h2, h3, rfl, rfl, h4⟩
          · rw [get_del HU.out] at h1; cases h1
          · exfalso; have := HLN.out; have := HL.out; omega
          have HL2 := Lib.hid (show ((its2.length : Nat) : Int) = 8192 from by have := HL.out; omega)
          have HBk := Lib.hid (HBj.out.trans hbk)
          have HSk := Lib.hid hsk
          have HDI2 := Lib.hid hdi2
          clear hres2 hsk hbk hdi2 hdel h1 h2 h3 h4 HPV

          obtain ⟨wp2, hwp2⟩ : ∃ wp2, wk.alloc (.cells (noughts 32).toArray 33) = wp2 := ⟨_, rfl⟩
          have HWP := Lib.hid hwp2
          have HIP := Lib.hid (show Blk wp2 wk.heap.size 33 (noughts 32) from hwp2 ▸ Blk.new wk 33 (noughts 32))
          have HBP := Lib.hid (show Below wk.heap.size wk wp2 from hwp2 ▸ below_alloc (Below.refl _ _) _)
          have HTH := Lib.hid (HIP.out.there 0 (cl di2).toArray.size (by rw [List.size_toArray, List.length_map, HDI2.out]; simp))
          have HSZ := Lib.hid (size33' HDI2.out)
          have HON := Lib.hid (one33 di2)
          have HIQ := Lib.hid (ret_id di2 HDI2.out HIP.out HBP.out (Nat.le_refl _))
          clear hwp2
          go_upto_region 27 with (first | ((change wpList _ _ _ _ _ (wk.alloc (.cells (noughts 32).toArray 33))); rw [HWP.out]; refine wpList_store_mid rfl 33 (.tmp 16) (.tmp 135) rfl wk.heap.size 0 (cl di2).toArray rfl rfl HTH.out HSZ.out HON.out ?_))
          obtain ⟨wq2, hwq2⟩ : ∃ wq2, wp2.setCells wk.heap.size 0 (cl di2) = wq2 := ⟨_, rfl⟩
          rw [hwq2] at HIQ ⊢

          have HBq := Lib.hid (HBk.out.trans (But.of_below HIQ.out.2))
          have HSq := Lib.hid (HSk.out.below HIQ.out.2)
          clear hwq2 HIQ HTH HSZ HON HIP HBP HWP HSk HBk
          go_wp2_with fail
          refine (num_walk 0 wq2).mono ?_
          rintro e wl ⟨rfl, hdl⟩
          have HBl := Lib.hid (HBq.out.trans (But.of_below hdl.below))
          have HLE2 := Lib.hid (len_walk ks km its2 wl (HSq.out.below hdl.below))
          rw [HL2.out] at HLE2
          clear hdl
          go_wp2_with fail
          refine HLE2.out.mono ?_
          rintro e wl2 ⟨rfl, rfl⟩
          go_wp2_with fail
          go_ret
          exact ⟨rfl, HB1.out.trans ((((But.of_below HB4.out).trans (HBr.out.trans ((But.of_below HBA.out).trans HBl.out))).new HKM.out).mono HB1.out.size)⟩

        · go_wp2_with fail
          refine (num_walk 45 wq).mono ?_
          rintro e wm ⟨rfl, hdm⟩
          go_wp2_with fail
          refine (num_walk 45 wm).mono ?_
          rintro e wn ⟨rfl, hdn⟩
          have HBn := Lib.hid ((HBx.out.trans (But.of_below hdm.below)).trans (But.of_below hdn.below))
          have HSn := Lib.hid ((HSx.out.below hdm.below).below hdn.below)
          clear hdn hdm
          go_wp2_with fail

          have HIDx := Lib.hid (id_walk bg rk b _ 5 wn (HTb.out.but HBn.out HK3.out) (HCb.out wn HBn.out) HEL.out (by have := HE5.out; omega))
          rw [HE5.out, HD.out] at HIDx
          refine HIDx.out.mono ?_
          rintro e wi ⟨rfl, hbi⟩
          have HBi := Lib.hid (HBn.out.trans (But.of_below hbi))
          have HSi := Lib.hid (HSn.out.below hbi)
          have HRM := Lib.hid (remove_walk ks km its d HDL.out wi HSi.out)
          rw [HG0.out] at HRM
          clear hbi HIDx
          go_wp2_with fail
          refine HRM.out.mono ?_
          rintro e wj ⟨rfl, hsj, hbj⟩
          have HBj := Lib.hid (HBi.out.trans hbj)
          have HSj := Lib.hid hsj
          clear hsj hbj HRM
          go_wp2_with fail
          have HPV := Lib.hid (put_walk bg rk ks km (idel its d) b.tail _ 5 wj (HTb.out.but HBj.out HK3.out) (cell_but HBj.out HEb.out (by have := HK3.out; show 3 ≠ km; omega)) HSj.out (HTL.out ▸ HCb.out wj HBj.out) (by rw [← HTL.out, HE5.out]; exact Nat.le_refl _) (by rw [← HTL.out, HE5.out]; decide) (by rw [← HTL.out]; exact HEB.out) (fun x hx => HBT.out x (del_mem hx)))
          rw [← HTL.out, HE5.out, HD.out] at HPV
          refine HPV.out.mono ?_
          rintro e wk ⟨di2, nw2, er2, its2, rfl, hres2, hsk, hbk, hdi2⟩
          have hdel : (idel its d).length + 1 = its.length := len_del HG0.out
          rcases put_cases hres2 (by have := HLN.out; have := HL.out; omega) with ⟨h1, _⟩ | ⟨h1, h2, _⟩ | ⟨h1, h2, h3, rfl, rfl, h4⟩
          · rw [get_del HU.out] at h1; cases h1
          · exfalso; have := HLN.out; have := HL.out; omega
          have HL2 := Lib.hid (show ((its2.length : Nat) : Int) = 8192 from by have := HL.out; omega)
          have HBk := Lib.hid (HBj.out.trans hbk)
          have HSk := Lib.hid hsk
          have HDI2 := Lib.hid hdi2
          clear hres2 hsk hbk hdi2 hdel h1 h2 h3 h4 HPV

          obtain ⟨wp2, hwp2⟩ : ∃ wp2, wk.alloc (.cells (noughts 32).toArray 33) = wp2 := ⟨_, rfl⟩
          have HWP := Lib.hid hwp2
          have HIP := Lib.hid (show Blk wp2 wk.heap.size 33 (noughts 32) from hwp2 ▸ Blk.new wk 33 (noughts 32))
          have HBP := Lib.hid (show Below wk.heap.size wk wp2 from hwp2 ▸ below_alloc (Below.refl _ _) _)
          have HTH := Lib.hid (HIP.out.there 0 (cl di2).toArray.size (by rw [List.size_toArray, List.length_map, HDI2.out]; simp))
          have HSZ := Lib.hid (size33' HDI2.out)
          have HON := Lib.hid (one33 di2)
          have HIQ := Lib.hid (ret_id di2 HDI2.out HIP.out HBP.out (Nat.le_refl _))
          clear hwp2
          go_upto_region 27 with (first | ((change wpList _ _ _ _ _ (wk.alloc (.cells (noughts 32).toArray 33))); rw [HWP.out]; refine wpList_store_mid rfl 33 (.tmp 16) (.tmp 135) rfl wk.heap.size 0 (cl di2).toArray rfl rfl HTH.out HSZ.out HON.out ?_))
          obtain ⟨wq2, hwq2⟩ : ∃ wq2, wp2.setCells wk.heap.size 0 (cl di2) = wq2 := ⟨_, rfl⟩
          rw [hwq2] at HIQ ⊢

          have HBq := Lib.hid (HBk.out.trans (But.of_below HIQ.out.2))
          have HSq := Lib.hid (HSk.out.below HIQ.out.2)
          clear hwq2 HIQ HTH HSZ HON HIP HBP HWP HSk HBk
          go_wp2_with fail
          refine (num_walk 0 wq2).mono ?_
          rintro e wl ⟨rfl, hdl⟩
          have HBl := Lib.hid (HBq.out.trans (But.of_below hdl.below))
          have HLE2 := Lib.hid (len_walk ks km its2 wl (HSq.out.below hdl.below))
          rw [HL2.out] at HLE2
          clear hdl
          go_wp2_with fail
          refine HLE2.out.mono ?_
          rintro e wl2 ⟨rfl, rfl⟩
          go_wp2_with fail
          go_ret
          exact ⟨rfl, HB1.out.trans ((((But.of_below HB4.out).trans (HBr.out.trans ((But.of_below HBA.out).trans HBl.out))).new HKM.out).mono HB1.out.size)⟩
end Go.Proofs.YtfbkkcigkpffiaaDoor.St
