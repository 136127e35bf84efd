/- The walk of the law StoreNested. -/
import Derived.Test.YtfbkkcigkpffiaaDoorIc
import Derived.OwnWalkIn
import Derived.Test.YtfbkkcigkpffiaaDoorId
import Derived.Laws.EntriesVeiled
namespace Go.Proofs.YtfbkkcigkpffiaaDoor.St
open Go Go.Lib Go.RowKit Go.ChangeMaps Go.Proofs.YtfbkkcigkpffiaaDoorW.PrintWords Go.Proofs.YtfbkkcigkpffiaaDoorW.PrintLast Go.Proofs.YtfbkkcigkpffiaaDoorW.PrintMore Go.Proofs.YtfbkkcigkpffiaaDoor.PStoreMany
set_option linter.unusedVariables false
set_option linter.unusedSimpArgs false
theorem abid_false {β : Type} (b : Nat) : Abid b (fun (_ : β) (_ : World) => False) := ⟨fun _ _ _ h _ => h, fun _ _ _ _ _ _ _ h => h⟩
theorem but_turn {k : Nat} {w W : World} {l : Nat} {o' : Loop} (h : But k w W) (hl : w.heap.size ≤ l) : But k w (W.putObj l (.loop o')) :=
  ⟨h.os, h.tape, h.output, by rw [World.putObj_size]; exact h.size, fun j hj hn => (World.putObj_heap_other (by omega)).trans (h.block j hj hn)⟩
theorem blk_turn {W : World} {b t l : Nat} {cs : List Value} {o o' : Loop} (ho : W.heap[l]? = some (.loop o)) (h : Blk W b t cs) : Blk (W.putObj l (.loop o')) b t cs :=
  (World.putObj_heap_other (fun e => by
    subst e
    have h1 : W.heap[b]? = _ := h
    rw [ho] at h1
    cases h1)).trans h
theorem gathers2_abid {wi : World} {b : Nat} (hb : b < wi.heap.size) (m : Nat) : Abid wi.heap.size (fun (pre : List (By × Value)) W => But b wi W ∧ GotAt b wi.heap.size (pre.map (fun x : By × Value => x.1)) W ∧ pre.length ≤ m) :=
  ⟨fun s A B h hb => ⟨h.1.trans (But.of_below hb), h.2.1.below hb, h.2.2⟩, fun s W l o o' hl ho h => ⟨but_turn h.1 hl, h.2.1.turn ho, h.2.2⟩⟩
theorem gathersC_abid {wi : World} {b : Nat} (hb : b < wi.heap.size) (L : List By) (p : Prop) : Abid wi.heap.size (fun (_ : List (By × Value)) W => p ∧ But b wi W ∧ GotAt b wi.heap.size L W) :=
  ⟨fun s A B h hb => ⟨h.1, h.2.1.trans (But.of_below hb), h.2.2.below hb⟩, fun s W l o o' hl ho h => ⟨h.1, but_turn h.2.1 hl, h.2.2.turn ho⟩⟩
/-- The invariant of a loop that gathers ids. -/
theorem gathers_abid {w9 : World} {b : Nat} (hb : b < w9.heap.size) : Abid w9.heap.size (fun (pre : List (By × Value)) W => But b w9 W ∧ GotAt b w9.heap.size (pre.map (·.1)) W) :=
  ⟨fun s A B h hb => ⟨h.1.trans (But.of_below hb), h.2.below hb⟩, fun s W l o o' hl ho h => ⟨but_turn h.1 hl, h.2.turn ho⟩⟩
set_option maxRecDepth 100000 in
set_option maxHeartbeats 8000000 in
theorem nested_walk (bg : List Int) (rk : Nat → Int) (tb : Tb) (er : Nat → Int) (h0 : ∀ m, er m = 0 ↔ m = 0) (encs : List (List Int)) (gone : List Int) (NN : Int) (A G : Option Addr) (cA cG : Nat) (w : World)
    (hT : Tabs bg rk w) (hU : U8T tb w) (hE : Ers er w) (hS : SetAt w A G encs gone) (hok : SetOk encs gone) :
    Calls Tryd.prog 6 #[.agg #[.slice A encs.length cA, .slice G gone.length cG, .int .i64 NN]] w fun e w' => e = .returned (.bool true) ∧ Below w.heap.size w w' := by
  obtain ⟨w1, hw1⟩ : ∃ w1, w.alloc (.cells [Value.slice A encs.length cA, Value.slice G gone.length cG, Value.int .i64 NN].toArray 53) = w1 := ⟨_, rfl⟩
  obtain ⟨wr, hwr⟩ : ∃ wr, w1.alloc (.cells [Value.bool false].toArray 4) = wr := ⟨_, rfl⟩
  have HB1 := Lib.hid (show Below w.heap.size w w1 from hw1 ▸ below_alloc (Below.refl _ _) _)
  have HBr := Lib.hid (show Below w1.heap.size w1 wr from hwr ▸ below_alloc (Below.refl _ _) _)
  have HB0r := Lib.hid (HB1.out.trans (HBr.out.mono HB1.out.size))
  have HP := Lib.hid ((show Blk w1 w.heap.size 53 [Value.slice A encs.length cA, Value.slice G gone.length cG, Value.int .i64 NN] from hw1 ▸ Blk.new w 53 _).below HBr.out)
  obtain ⟨r, hr⟩ : ∃ r, w1.heap.size = r := ⟨_, rfl⟩
  have HRB := Lib.hid (show Blk wr r 4 [Value.bool false] from hr ▸ hwr ▸ Blk.new w1 4 _)
  have HT1 := Lib.hid (hT.below HB0r.out)
  have HFI := Lib.hid (filled_walk bg rk tb er h0 encs gone NN A G cA cG wr (hT.below HB0r.out) (hU.below HB0r.out) (hE.below HB0r.out) (hS.below HB0r.out) hok)
  have HR0 := Lib.hid hr
  obtain ⟨M, hM⟩ : ∃ M, encs.length = M := ⟨_, rfl⟩
  obtain ⟨K, hK⟩ : ∃ K, gone.length = K := ⟨_, rfl⟩
  rw [hM, hK] at HFI HP hw1 ⊢
  have HW1 := Lib.hid hw1
  have HWR := Lib.hid hwr
  have c0 : wr.cell? ⟨w.heap.size, 0, none⟩ = some (.slice A M cA) := HP.out.cell 0
  have c1 : wr.cell? ⟨w.heap.size, 1, none⟩ = some (.slice G K cG) := HP.out.cell 1
  have c2 : wr.cell? ⟨w.heap.size, 2, none⟩ = some (.int .i64 NN) := HP.out.cell 2
  clear hT hU hE hS hok hM hK hw1 hwr
  refine (callsIn_wide (n := 0)).1 (callsIn_of_wp_marks Tryd.func6 rfl trivial (wpIn_wide.2 ?_))
  simp only [Tryd.ntmps6, List.size_toArray, List.length_cons, List.length_nil, Nat.reduceAdd, Nat.reduceSub, Array.replicate_succ, Array.replicate_zero, List.push_toArray, List.append_toArray, List.nil_append, List.cons_append]
  go_upto_region 1 with fail
  have hrs : r = w.heap.size + 1 := by rw [← HR0.out, ← HW1.out]; simp
  clear HR0
  subst hrs
  change Code.wp _ _ _ _ ((w.alloc (.cells [Value.slice A M cA, Value.slice G K cG, Value.int .i64 NN].toArray 53)).alloc (.cells [Value.bool false].toArray 4))
  rw [HW1.out, HWR.out]
  go_wp2_with fail
  refine HFI.out.mono ?_
  rintro e w2 ⟨ks, km, its, rfl, hfl, hb2⟩
  have HFL := Lib.hid hfl
  have HB2 := Lib.hid hb2
  have HA1 := Lib.hid (all_walk ks w2)
  clear hfl hb2 HFI c0 c1 c2
  go_wp2_with fail
  refine HA1.out.mono ?_
  rintro e w3 ⟨bx, rfl, hbx, hcx, hb3⟩
  have HBX := Lib.hid hbx
  have HCX := Lib.hid hcx
  have HB3 := Lib.hid hb3
  clear hbx hcx hb3 HA1
  go_upto_region 5 with fail
  obtain ⟨w4, hw4⟩ : ∃ w4, w3.alloc (.cells [Value.func (Fn.func 40) #[] #[.pointer (some ⟨bx, 0, none⟩)]].toArray 59) = w4 := ⟨_, rfl⟩
  change Code.wp _ _ _ _ (w3.alloc (.cells [Value.func (Fn.func 40) #[] #[.pointer (some ⟨bx, 0, none⟩)]].toArray 59))
  have HB4 := Lib.hid (show Below w3.heap.size w3 w4 from hw4 ▸ below_alloc (Below.refl _ _) _)
  obtain ⟨bf, hbf⟩ : ∃ bf, w3.heap.size = bf := ⟨_, rfl⟩
  have HF1 := Lib.hid (show Blk w4 bf 59 [Value.func (Fn.func 40) #[] #[.pointer (some ⟨bx, 0, none⟩)]] from hbf ▸ hw4 ▸ Blk.new w3 59 _)
  rw [hw4, hbf]
  have HBF := Lib.hid hbf
  have HA2 := Lib.hid (all_walk ks w4)
  clear hw4 hbf
  go_wp2_with fail
  refine HA2.out.mono ?_
  rintro e w5 ⟨by_, rfl, hby, hcy, hb5⟩
  have HCY := Lib.hid hcy
  have HB5 := Lib.hid hb5
  clear hby hcy hb5 HA2
  go_upto_region 6 with fail
  obtain ⟨w6, hw6⟩ : ∃ w6, w5.alloc (.cells [Value.func (Fn.func 40) #[] #[.pointer (some ⟨by_, 0, none⟩)]].toArray 59) = w6 := ⟨_, rfl⟩
  change Code.wp _ _ _ _ (w5.alloc (.cells [Value.func (Fn.func 40) #[] #[.pointer (some ⟨by_, 0, none⟩)]].toArray 59))
  have HB6 := Lib.hid (show Below w5.heap.size w5 w6 from hw6 ▸ below_alloc (Below.refl _ _) _)
  obtain ⟨bh, hbh⟩ : ∃ bh, w5.heap.size = bh := ⟨_, rfl⟩
  have HF2 := Lib.hid (show Blk w6 bh 59 [Value.func (Fn.func 40) #[] #[.pointer (some ⟨by_, 0, none⟩)]] from hbh ▸ hw6 ▸ Blk.new w5 59 _)
  rw [hw6, hbh]
  have HBH := Lib.hid hbh
  have HB26 := Lib.hid (HB3.out.trans ((HB4.out.trans ((HB5.out.trans (HB6.out.mono HB5.out.size)).mono HB4.out.size)).mono HB3.out.size))
  have HID := Lib.hid (ids_walk ks km its w6 (HFL.out.st.below HB26.out) (by have := HFL.out.len; omega))
  clear hw6 hbh
  go_wp2_with fail
  refine HID.out.mono ?_
  rintro e w7 ⟨g, cap, D, rfl, hperm, hsort, h32, hrow, hg0, hg, hcap, hb7⟩
  obtain ⟨n, hn⟩ : ∃ n, D.length = n := ⟨_, rfl⟩
  have HN := Lib.hid hn
  have HPM := Lib.hid hperm
  have HSO := Lib.hid hsort
  have H32 := Lib.hid h32
  have HROW := Lib.hid hrow
  have HG := Lib.hid hg
  have HB7 := Lib.hid hb7
  have HNL := Lib.hid (show n ≤ 80 from by have h1 := hperm.length_eq; rw [List.length_map] at h1; have := HFL.out.len; omega)
  have HCAP := Lib.hid (show n ≤ cap from hn ▸ hcap)
  rw [hn]
  clear hn hperm hsort h32 hrow hg hg0 hb7 hcap HID
  go_upto_region 7 with fail
  obtain ⟨w8, hw8⟩ : ∃ w8, w7.alloc (.cells [Value.slice (some ⟨g, 0, none⟩) n cap].toArray 44) = w8 := ⟨_, rfl⟩
  change Code.wp _ _ _ _ (w7.alloc (.cells [Value.slice (some ⟨g, 0, none⟩) n cap].toArray 44))
  have HB8 := Lib.hid (show Below w7.heap.size w7 w8 from hw8 ▸ below_alloc (Below.refl _ _) _)
  obtain ⟨bi, hbi⟩ : ∃ bi, w7.heap.size = bi := ⟨_, rfl⟩
  have HI8 := Lib.hid (show Blk w8 bi 44 [Value.slice (some ⟨g, 0, none⟩) n cap] from hbi ▸ hw8 ▸ Blk.new w7 44 _)
  rw [hw8, hbi]
  have HBI := Lib.hid hbi
  have HF18 := Lib.hid (HF1.out.below (HB5.out.trans ((HB6.out.trans ((HB7.out.trans (HB8.out.mono HB7.out.size)).mono HB6.out.size)).mono HB5.out.size)))
  have HF28 := Lib.hid (HF2.out.below (HB7.out.trans (HB8.out.mono HB7.out.size)))
  have c5 : w8.cell? ⟨bf, 0, none⟩ = some (.func (.func 40) #[] #[.pointer (some ⟨bx, 0, none⟩)]) := HF18.out.cell 0
  have c6 : w8.cell? ⟨bh, 0, none⟩ = some (.func (.func 40) #[] #[.pointer (some ⟨by_, 0, none⟩)]) := HF28.out.cell 0
  have hq : ∀ (b : Nat) W, (binOp .eql 59 (.func (.func 40) #[] #[.pointer (some ⟨b, 0, none⟩)]) .nilFunc).run Tryd.prog W = .ok (.bool false) W := fun _ _ => by kernel_rfl
  clear hw8 hbi
  go_upto_region 9 with fail
  clear hq
  go_upto_region 10 with fail
  obtain ⟨w9, hw9⟩ : ∃ w9, w8.alloc (.cells [Value.slice none 0 0].toArray 44) = w9 := ⟨_, rfl⟩
  change Code.wp _ _ _ _ (w8.alloc (.cells [Value.slice none 0 0].toArray 44))
  have HB9 := Lib.hid (show Below w8.heap.size w8 w9 from hw9 ▸ below_alloc (Below.refl _ _) _)
  obtain ⟨bg_, hbg⟩ : ∃ bg_, w8.heap.size = bg_ := ⟨_, rfl⟩
  have HG9 := Lib.hid (show Blk w9 bg_ 44 [Value.slice none 0 0] from hbg ▸ hw9 ▸ Blk.new w8 44 _)
  rw [hw9, hbg]
  have HBG := Lib.hid hbg
  have c5' := pw_cell_below HB9.out c5
  have HB29 := Lib.hid (HB26.out.trans ((HB7.out.trans ((HB8.out.trans (HB9.out.mono HB8.out.size)).mono HB7.out.size)).mono HB26.out.size))
  have HBW9 := Lib.hid (HB0r.out.trans ((HB2.out.trans (HB29.out.mono HB2.out.size)).mono HB0r.out.size))
  have hsz9 : w2.heap.size ≤ bg_ := by
    have h1 := HB26.out.size
    have h2 := HB7.out.size
    have h3 := HB8.out.size
    have h4 := HBG.out
    omega
  have HMO := Lib.hid (mineB_ok (b := bg_) HFL.out.st HB29.out hsz9 (HG9.out.cell 0))
  have HCX9 := Lib.hid (pw_cell_below (HB4.out.trans ((HB5.out.trans ((HB6.out.trans ((HB7.out.trans ((HB8.out.trans (HB9.out.mono HB8.out.size)).mono HB7.out.size)).mono HB6.out.size)).mono HB5.out.size)).mono HB4.out.size)) HCX.out)
  have HCY9 := Lib.hid (pw_cell_below (HB6.out.trans ((HB7.out.trans ((HB8.out.trans (HB9.out.mono HB8.out.size)).mono HB7.out.size)).mono HB6.out.size)) HCY.out)
  have HST9 := Lib.hid (HFL.out.st.below HB29.out)
  have HSE := Lib.hid (fun bx (h : w9.cell? ⟨bx, 0, none⟩ = some (.pointer (some ⟨ks, 0, none⟩))) => all_seq ks km bx its D w9 (MineB bg_) h HST9.out HFL.out.uq (by have := HFL.out.len; omega) (fun x hx => Nat.le_trans (pe_len (HFL.out.good x hx).2.1) (by decide)) HMO.out HSO.out HPM.out)
  have HI0 := Lib.hid (show But bg_ w9 w9 ∧ GotAt bg_ w9.heap.size [] w9 from ⟨But.refl _ _, _, HG9.out, Kd.R_nil _ _ _ _ _⟩)
  have HGA := Lib.hid (gathers_abid (w9 := w9) (b := bg_) HG9.out.lt)
  clear hw9 hbg
  go_wp2_with fail
  refine (wpIn_wide (n := 0)).1 ?_
  refine range_outer (α := By × Value) (gf := 40) (lb := #[.pointer (some ⟨bx, 0, none⟩)]) rfl (enters_of Tryd.func40 (by kernel_rfl) rfl) (HSE.out bx HCX9.out) (Below.refl _ _) (fun _ => rfl) (fun h k => KpS.trans h k) (fun W l o o' hl ho => KpS.turn (mineB_turn) W l o o' hl ho)
    (fun (pre : List (By × Value)) W => But bg_ w9 W ∧ GotAt bg_ w9.heap.size (pre.map (fun x : By × Value => x.1)) W) (fun _ _ _ => False) HGA.out (fun _ => abid_false _) HI0.out
    (fun (pre : List (By × Value)) (x : By × Value) a' W => ∃ b9, w9.heap.size ≤ b9 ∧ Blk W b9 33 (cl x.1) ∧ (pre ++ [x]).map (fun x : By × Value => x.1) <+: D ∧ a' = { tmps := #[.agg #[.slice A M cA, .slice G K cG, .int .i64 NN], .pointer (some ⟨w.heap.size, 0, none⟩), .pointer (some ⟨w.heap.size + 1, 0, none⟩), .pointer (some ⟨ks, 0, none⟩), .bool true, .pointer (some ⟨bf, 0, none⟩), .pointer (some ⟨bh, 0, none⟩), .pointer (some ⟨bi, 0, none⟩), .pointer (some ⟨bg_, 0, none⟩), .pointer (some ⟨b9, 0, none⟩), undef, undef, undef, undef, undef, undef, .tuple #[.pointer (some ⟨ks, 0, none⟩), .bool true], .agg #[.slice A M cA, .slice G K cG, .int .i64 NN], .tuple #[.pointer (some ⟨ks, 0, none⟩), .bool true], .pointer (some ⟨ks, 0, none⟩), .bool true, .bool true, .bool false, .pointer (some ⟨ks, 0, none⟩), .func (.func 40) #[] #[.pointer (some ⟨bx, 0, none⟩)], .pointer (some ⟨ks, 0, none⟩), .func (.func 40) #[] #[.pointer (some ⟨by_, 0, none⟩)], .pointer (some ⟨ks, 0, none⟩), .slice (some ⟨g, 0, none⟩) n cap, .func (.func 40) #[] #[.pointer (some ⟨bx, 0, none⟩)], .bool false, .bool false, .func (.func 40) #[] #[.pointer (some ⟨by_, 0, none⟩)], .bool false, .bool false, .func (.func 40) #[] #[.pointer (some ⟨bx, 0, none⟩)], vId x.1, x.2, undef, undef, undef, undef, undef, undef, undef, undef, undef, undef, undef, undef, undef, undef, undef, undef, undef, undef, undef, undef, undef, undef, undef, undef, undef, undef, undef, undef, undef, undef, undef, undef, undef, undef, undef, undef, undef, undef, undef, undef, undef, undef, undef, undef, undef, undef, undef, undef, undef, undef, undef, undef, undef, undef, undef, undef, undef, undef, undef], defers := [] }) (fun pre x a' => ⟨fun s A B ⟨b9, h1, h2, h3, h4⟩ hb => ⟨b9, h1, h2.below hb, h3, h4⟩, fun s W l o o' hl ho ⟨b9, h1, h2, h3, h4⟩ => ⟨b9, h1, blk_turn ho h2, h3, h4⟩⟩) ?assign ?body ?done ?stop
  case assign =>
    rintro l pre ⟨xi, xv⟩ W K ⟨hbt, hgot⟩ ⟨hpx, b, hbm, hrb⟩ hK nn
    have HX := Lib.hid (show xi.length = 32 from H32.out _ (hpx.subset (by simp)))
    obtain ⟨wa, hwa⟩ : ∃ wa, W.alloc (.cells (noughts 32).toArray 33) = wa := ⟨_, rfl⟩
    have HWA := Lib.hid hwa
    have HIa := Lib.hid (show Blk wa W.heap.size 33 (noughts 32) from hwa ▸ Blk.new W 33 _)
    have HBa := Lib.hid (show Below W.heap.size W wa from hwa ▸ below_alloc (Below.refl _ _) _)
    have HTH := Lib.hid (HIa.out.there 0 (cl xi).toArray.size (by rw [List.size_toArray, List.length_map, HX.out]; simp))
    have HSZ := Lib.hid (size33' HX.out)
    have HON := Lib.hid (one33 xi)
    have HIb := Lib.hid (setCell_zero33 wa _ xi HX.out HIa.out)
    have HBb := Lib.hid (show Below W.heap.size W (wa.setCells W.heap.size 0 (cl xi)) from (But.setCells (k := W.heap.size) (cl xi) 0 wa (But.of_below HBa.out)).new (Nat.le_refl _))
    have HK := Lib.hid hK
    have HPX := Lib.hid hpx
    have HBT := Lib.hid hbt
    have HGT := Lib.hid hgot
    clear hwa hK hpx hbt hgot hbm hrb
    refine round_region (by rfl) (fun K' hK' => ?_)
    dsimp only [List.zip_toArray]
    go_wp2_with (first | ((change wpList _ _ _ _ _ (W.alloc (.cells (noughts 32).toArray 33))); rw [HWA.out]; refine wpList_store_mid rfl 33 (.tmp 9) (.tmp 36) rfl W.heap.size 0 (cl xi).toArray rfl rfl HTH.out HSZ.out HON.out ?_))
    exact HK.out _ _ (KeepsBk.of_below HBb.out) (KpS.of_below HMO.out HBT.out.size HBb.out) ⟨HBT.out.trans (But.of_below HBb.out), HGT.out.below HBb.out⟩ ⟨W.heap.size, HBT.out.size, HIb.out, HPX.out, rfl⟩
  case body =>
    rintro l pre ⟨xi, xv⟩ a' W hl hrr ⟨hbt, hgot⟩ ⟨b9, hb9, hbx9, hpx, rfl⟩ nn
    have HRR := Lib.hid hrr
    have HBT := Lib.hid hbt
    have HPX := Lib.hid (show pre.map (fun x : By × Value => x.1) ++ [xi] <+: D from by simpa using hpx)
    have HX9 := Lib.hid hbx9
    obtain ⟨v, hbv, hR⟩ := hgot
    obtain ⟨L0, hL0⟩ : ∃ L0 : List By, pre.map (fun x : By × Value => x.1) = L0 := ⟨_, rfl⟩
    rw [hL0] at hR HPX
    have HL0 := Lib.hid hL0
    obtain ⟨Ag, cg, rfl⟩ := Kd.R_slice hR
    have HR := Lib.hid hR
    have HBV := Lib.hid hbv
    obtain ⟨q, hq⟩ : ∃ q, L0.length = q := ⟨_, rfl⟩
    have HQ := Lib.hid hq
    have hqn : q < n := by
      have h1 := HPX.out.length_le
      rw [List.length_append, List.length_singleton, hq, HN.out] at h1
      omega
    rw [hq] at HBV HR
    have hn80 := HNL.out
    have hbl : ∀ k, k < w9.heap.size → k ≠ bg_ → W.heap[k]? = w9.heap[k]? := fun k h1 h2 => hbt.block k h1 h2
    have HBG9 := Lib.hid HG9.out.lt
    have HBL := Lib.hid hbl
    have c1N : W.cell? ⟨w.heap.size, 2, none⟩ = some (.int .i64 NN) := (((HP.out.below (HB2.out.trans (HB29.out.mono HB2.out.size))).but hbt (by have := HBG.out; have := HP.out.lt; have := HB2.out.size; omega))).cell 2
    have c7 : W.cell? ⟨bi, 0, none⟩ = some (.slice (some ⟨g, 0, none⟩) n cap) := ((HI8.out.below HB9.out).but hbt (by have := HBI.out; have := HBG.out; have := HI8.out.lt; omega)).cell 0
    have c8 : W.cell? ⟨bg_, 0, none⟩ = some (.slice Ag q cg) := HBV.out.cell 0
    have HF5 := Lib.hid ((HF18.out.below HB9.out).but hbt (by have := HF18.out.lt; have := HBG.out; omega))
    have HF6 := Lib.hid ((HF28.out.below HB9.out).but hbt (by have := HF28.out.lt; have := HBG.out; omega))
    have HI7 := Lib.hid (show Blk W bi 44 [.slice (some ⟨g, 0, none⟩) n cap] from (HI8.out.below HB9.out).but hbt (by have := HBI.out; have := HBG.out; have := HI8.out.lt; omega))
    obtain ⟨m1, hm1, hin1⟩ := into_any NN (n + 1) (by omega) (by omega)
    obtain ⟨m2, hm2, hin2⟩ := into_any ((m1 : Int) + (q : Int)) (n + 1) (by omega) (by omega)
    have hm2n : m2 ≤ n := by omega
    rw [show (((n + 1 : Nat)) : Int) = (n : Int) + 1 by omega] at hin1 hin2
    have hcl1 := fun W => satchellaw4_into.calls NN ((n : Int) + 1) m1 W hin1
    have hcl2 := fun W => satchellaw4_into.calls ((m1 : Int) + (q : Int)) ((n : Int) + 1) m2 W hin2
    clear hrr hbt hpx hbx9 hbv hR hL0 hq hin1 hin2 hbl
    refine wpIn_block ?_
    apply wpIn_seq_k
    intro K1 hK1
    refine region_most l nn w.heap.size bi bg_ NN (some ⟨g, 0, none⟩) Ag n cap q cg m1 m2 _ _ _ _ _ _ _ _ _ _ _ _ _ _ _ _ _ _ _ _ _ _ _ _ _ _ _ _ _ _ _ _ _ _ _ _ _ _ _ _ _ _ _ _ _ _ _ _ _ _ _ _ _ _ _ _ _ _ _ _ _ _ _ _ _ _ _ _ _ _ _ _ _ _ _ _ _ _ _ _ _ _ _ _ _ _ _ _ _ _ _ _ _ _ W c1N c7 c8 hn80 (by omega) (by omega) hcl1 hcl2 (fun wm hbm hbW => ?_)
    simp only [Exit.then]
    refine hK1 _ _ ?_
    clear hK1 K1 hcl1 hcl2 c1N c8
    have HBM := Lib.hid hbm
    have HWM := Lib.hid hbW
    have c5m : wm.cell? ⟨bf, 0, none⟩ = some (.func (.func 40) #[] #[.pointer (some ⟨bx, 0, none⟩)]) := (HF5.out.below hbW).cell 0
    clear hbm hbW c7
    apply wpIn_seq_k
    intro _ _
    refine round_region (by rfl) (fun _ _ => ?_)
    go_wp2_with fail
    obtain ⟨wi, hwi⟩ : ∃ wi, wm.alloc (.cells [Value.slice none 0 0].toArray 44) = wi := ⟨_, rfl⟩
    change Code.wpIn _ _ _ _ _ _ (wm.alloc (.cells [Value.slice none 0 0].toArray 44))
    have HWI := Lib.hid (show Below wm.heap.size wm wi from hwi ▸ below_alloc (Below.refl _ _) _)
    obtain ⟨bn, hbn⟩ : ∃ bn, wm.heap.size = bn := ⟨_, rfl⟩
    have HBN := Lib.hid (show Blk wi bn 44 [Value.slice none 0 0] from hbn ▸ hwi ▸ Blk.new wm 44 _)
    rw [hwi, hbn]
    have HBNE := Lib.hid hbn
    have c5i := pw_cell_below HWI.out c5m
    have HWWI := Lib.hid (HWM.out.trans (HWI.out.mono HWM.out.size))
    have HB2W := Lib.hid (below_but HB29.out HBT.out hsz9 HB29.out.size)
    have HB2I := Lib.hid (HB2W.out.trans (HWWI.out.mono HB2W.out.size))
    have hsn : w2.heap.size ≤ bn := by
      have h1 := HB2W.out.size
      have h2 := HWM.out.size
      omega
    have HMOI := Lib.hid (mineB_ok (b := bn) HFL.out.st HB2I.out hsn (HBN.out.cell 0))
    have HCXW := Lib.hid (show W.cell? ⟨bx, 0, none⟩ = some (.pointer (some ⟨ks, 0, none⟩)) from (cell_same (HBL.out bx (World.block_lt_of_cell? w9 _ HCX9.out) (fun e => by subst e; have h1 := HG9.out.cell 0; rw [HCX9.out] at h1; cases h1))).trans HCX9.out)
    have HSEI := Lib.hid (all_seq ks km bx its D wi (MineB bn) (pw_cell_below HWWI.out HCXW.out) (HFL.out.st.below HB2I.out) HFL.out.uq (by have := HFL.out.len; omega) (fun x hx => Nat.le_trans (pe_len (HFL.out.good x hx).2.1) (by decide)) HMOI.out HSO.out HPM.out)
    have HII0 := Lib.hid (show But bn wi wi ∧ GotAt bn wi.heap.size [] wi ∧ 0 ≤ m2 from ⟨But.refl _ _, ⟨_, HBN.out, Kd.R_nil _ _ _ _ _⟩, Nat.zero_le _⟩)
    obtain ⟨rr, hrr⟩ := HRR.out
    have hrri := (HWWI.out.block l (Array.getElem?_eq_some_iff.1 hrr).1).trans hrr
    clear hwi hbn c5m
    apply wpIn_seq_k
    intro K3 hK3
    have rest : ∀ W3, But bn wi W3 → GotAt bn wi.heap.size (D.take m2) W3 → K3 { tmps := #[.agg #[.slice A M cA, .slice G K cG, .int .i64 NN], .pointer (some ⟨w.heap.size, 0, none⟩), .pointer (some ⟨w.heap.size + 1, 0, none⟩), .pointer (some ⟨ks, 0, none⟩), .bool true, .pointer (some ⟨bf, 0, none⟩), .pointer (some ⟨bh, 0, none⟩), .pointer (some ⟨bi, 0, none⟩), .pointer (some ⟨bg_, 0, none⟩), .pointer (some ⟨b9, 0, none⟩), .pointer (some ⟨W.heap.size, 0, none⟩), .pointer (some ⟨bn, 0, none⟩), undef, undef, undef, undef, .tuple #[.pointer (some ⟨ks, 0, none⟩), .bool true], .agg #[.slice A M cA, .slice G K cG, .int .i64 NN], .tuple #[.pointer (some ⟨ks, 0, none⟩), .bool true], .pointer (some ⟨ks, 0, none⟩), .bool true, .bool true, .bool false, .pointer (some ⟨ks, 0, none⟩), .func (.func 40) #[] #[.pointer (some ⟨bx, 0, none⟩)], .pointer (some ⟨ks, 0, none⟩), .func (.func 40) #[] #[.pointer (some ⟨by_, 0, none⟩)], .pointer (some ⟨ks, 0, none⟩), .slice (some ⟨g, 0, none⟩) n cap, .func (.func 40) #[] #[.pointer (some ⟨bx, 0, none⟩)], .bool false, .bool false, .func (.func 40) #[] #[.pointer (some ⟨by_, 0, none⟩)], .bool false, .bool false, .func (.func 40) #[] #[.pointer (some ⟨bx, 0, none⟩)], vId xi, xv, .pointer (some ⟨w.heap.size, 2, none⟩), .int .i64 NN, .slice (some ⟨g, 0, none⟩) n cap, .int .i64 n, .int .i64 ((n : Int) + 1), .int .i64 m1, .slice Ag q cg, .int .i64 q, .int .i64 ((m1 : Int) + (q : Int)), .slice (some ⟨g, 0, none⟩) n cap, .int .i64 n, .int .i64 ((n : Int) + 1), .int .i64 m2, .func (.func 40) #[] #[.pointer (some ⟨bx, 0, none⟩)], undef, undef, undef, undef, undef, undef, undef, undef, undef, undef, undef, undef, undef, undef, undef, undef, undef, undef, undef, undef, undef, undef, undef, undef, undef, undef, undef, undef, undef, undef, undef, undef, undef, undef, undef, undef, undef, undef, undef, undef, undef, undef, undef, undef, undef], defers := [] } W3 := by
      intro W3 hbt3 hgot3
      refine hK3 _ _ ?_
      have hwb3 : Below W.heap.size W W3 := below_but HWWI.out hbt3 (by have h1 := HBNE.out; have h2 := HWM.out.size; omega) HWWI.out.size
      have HWB3 := Lib.hid hwb3
      have HBMW3 := Lib.hid (show Blk W3 W.heap.size 3 [.int .i64 m2] from (HBM.out.below HWI.out).but hbt3 (by have := HBM.out.lt; have := HBNE.out; omega))
      have HGN3 := Lib.hid hgot3
      clear hgot3 hbt3 hrri c5i hwb3
      apply wpIn_seq_k
      intro _ _
      refine round_region (by rfl) (fun _ _ => ?_)
      go_wp2_with fail
      obtain ⟨wj, hwj⟩ : ∃ wj, W3.alloc (.cells [Value.slice none 0 0].toArray 44) = wj := ⟨_, rfl⟩
      change Code.wpIn _ _ _ _ _ _ (W3.alloc (.cells [Value.slice none 0 0].toArray 44))
      have HWJ := Lib.hid (show Below W3.heap.size W3 wj from hwj ▸ below_alloc (Below.refl _ _) _)
      obtain ⟨bo, hbo⟩ : ∃ bo, W3.heap.size = bo := ⟨_, rfl⟩
      have HBO := Lib.hid (show Blk wj bo 44 [Value.slice none 0 0] from hbo ▸ hwj ▸ Blk.new W3 44 _)
      rw [hwj, hbo]
      have HBOE := Lib.hid hbo
      have HWWJ := Lib.hid (HWB3.out.trans (HWJ.out.mono HWB3.out.size))
      have c6j : wj.cell? ⟨bh, 0, none⟩ = some (.func (.func 40) #[] #[.pointer (some ⟨by_, 0, none⟩)]) := (HF6.out.below HWWJ.out).cell 0
      have HB2J := Lib.hid (HB2W.out.trans (HWWJ.out.mono HB2W.out.size))
      have hso : w2.heap.size ≤ bo := by
        have h1 := HB2W.out.size
        have h2 := HWB3.out.size
        omega
      have HMOJ := Lib.hid (mineB_ok (b := bo) HFL.out.st HB2J.out hso (HBO.out.cell 0))
      have HCYW := Lib.hid (show W.cell? ⟨by_, 0, none⟩ = some (.pointer (some ⟨ks, 0, none⟩)) from (cell_same (HBL.out by_ (World.block_lt_of_cell? w9 _ HCY9.out) (fun e => by subst e; have h1 := HG9.out.cell 0; rw [HCY9.out] at h1; cases h1))).trans HCY9.out)
      have HSEJ := Lib.hid (all_seq ks km by_ its D wj (MineB bo) (pw_cell_below HWWJ.out HCYW.out) (HFL.out.st.below HB2J.out) HFL.out.uq (by have := HFL.out.len; omega) (fun x hx => Nat.le_trans (pe_len (HFL.out.good x hx).2.1) (by decide)) HMOJ.out HSO.out HPM.out)
      have HIJ0 := Lib.hid (show But bo wj wj ∧ GotAt bo wj.heap.size [] wj from ⟨But.refl _ _, ⟨_, HBO.out, Kd.R_nil _ _ _ _ _⟩⟩)
      have hrrj := (HWWJ.out.block l (Array.getElem?_eq_some_iff.1 hrr).1).trans hrr
      clear hwj hbo
      apply wpIn_seq_k
      intro K6 hK6
      have rest2 : ∀ W4, But bo wj W4 → GotAt bo wj.heap.size D W4 → K6 { tmps := #[.agg #[.slice A M cA, .slice G K cG, .int .i64 NN], .pointer (some ⟨w.heap.size, 0, none⟩), .pointer (some ⟨w.heap.size + 1, 0, none⟩), .pointer (some ⟨ks, 0, none⟩), .bool true, .pointer (some ⟨bf, 0, none⟩), .pointer (some ⟨bh, 0, none⟩), .pointer (some ⟨bi, 0, none⟩), .pointer (some ⟨bg_, 0, none⟩), .pointer (some ⟨b9, 0, none⟩), .pointer (some ⟨W.heap.size, 0, none⟩), .pointer (some ⟨bn, 0, none⟩), undef, .pointer (some ⟨bo, 0, none⟩), undef, undef, .tuple #[.pointer (some ⟨ks, 0, none⟩), .bool true], .agg #[.slice A M cA, .slice G K cG, .int .i64 NN], .tuple #[.pointer (some ⟨ks, 0, none⟩), .bool true], .pointer (some ⟨ks, 0, none⟩), .bool true, .bool true, .bool false, .pointer (some ⟨ks, 0, none⟩), .func (.func 40) #[] #[.pointer (some ⟨bx, 0, none⟩)], .pointer (some ⟨ks, 0, none⟩), .func (.func 40) #[] #[.pointer (some ⟨by_, 0, none⟩)], .pointer (some ⟨ks, 0, none⟩), .slice (some ⟨g, 0, none⟩) n cap, .func (.func 40) #[] #[.pointer (some ⟨bx, 0, none⟩)], .bool false, .bool false, .func (.func 40) #[] #[.pointer (some ⟨by_, 0, none⟩)], .bool false, .bool false, .func (.func 40) #[] #[.pointer (some ⟨bx, 0, none⟩)], vId xi, xv, .pointer (some ⟨w.heap.size, 2, none⟩), .int .i64 NN, .slice (some ⟨g, 0, none⟩) n cap, .int .i64 n, .int .i64 ((n : Int) + 1), .int .i64 m1, .slice Ag q cg, .int .i64 q, .int .i64 ((m1 : Int) + (q : Int)), .slice (some ⟨g, 0, none⟩) n cap, .int .i64 n, .int .i64 ((n : Int) + 1), .int .i64 m2, .func (.func 40) #[] #[.pointer (some ⟨bx, 0, none⟩)], undef, undef, undef, undef, undef, undef, undef, undef, undef, undef, .func (.func 40) #[] #[.pointer (some ⟨by_, 0, none⟩)], undef, undef, undef, undef, undef, undef, undef, undef, undef, undef, undef, undef, undef, undef, undef, undef, undef, undef, undef, undef, undef, undef, undef, undef, undef, undef, undef, undef, undef, undef, undef, undef, undef, undef], defers := [] } W4 := by
        intro W4 hbt4 hgot4
        refine hK6 _ _ ?_
        have HWB4 := Lib.hid (below_but HWWJ.out hbt4 (by have h1 := HWB3.out.size; have h2 := HBOE.out; omega) HWWJ.out.size)
        have HB34 := Lib.hid (below_but HWJ.out hbt4 (by rw [HBOE.out]; exact Nat.le_refl _) HWJ.out.size)
        obtain ⟨vn, hbvn, hRn⟩ := HGN3.out.below HB34.out
        obtain ⟨An, cn, rfl⟩ := Kd.R_slice hRn
        obtain ⟨_, _, hCn⟩ := Kd.R_reads' hRn
        have hmt : (D.take m2).length = m2 := by rw [List.length_take, HN.out]; omega
        obtain ⟨vo, hbvo, hRo⟩ := hgot4
        obtain ⟨Ao, co, rfl⟩ := Kd.R_slice hRo
        obtain ⟨_, _, hCo⟩ := Kd.R_reads' hRo
        have HRW4 := Lib.hid (show RowI W4 g D from ((HROW.out.below HG.out (HB8.out.trans (HB9.out.mono HB8.out.size))).but (Nat.lt_of_lt_of_le HG.out (Nat.le_trans HB8.out.size HB9.out.size)) HBT.out (by have := HG.out; have := HB8.out.size; have := HBG.out; omega)).below (Nat.lt_of_lt_of_le HG.out (Nat.le_trans HB8.out.size (Nat.le_trans HB9.out.size HBT.out.size))) HWB4.out)
        have HRT := Lib.hid (show RowI W4 g (D.take m2) from fun i hi j v hj => by
          have hi' : i < D.length := Nat.lt_of_lt_of_le hi (List.length_take_le' _ _)
          exact HRW4.out i hi' j v (by rw [List.getElem_take] at hj; exact hj))
        have h32t : ∀ x ∈ D.take m2, x.length = 32 := fun x hx => H32.out x (List.mem_of_mem_take hx)
        have HE1 := Lib.hid (fun w' (hw : Below W4.heap.size W4 w') => eqids_walk (D.take m2) An (some ⟨g, 0, none⟩) cn cap w' h32t (Kd.C_below hCn hw) (Kd.C_below (HRT.out.C h32t (by rw [hmt]; omega)) hw))
        have HE2 := Lib.hid (fun w' (hw : Below W4.heap.size W4 w') => eqids_walk D Ao (some ⟨g, 0, none⟩) co cap w' H32.out (Kd.C_below hCo hw) (Kd.C_below (HRW4.out.C H32.out (by rw [HN.out]; omega)) hw))
        rw [hmt] at HE1 hbvn
        rw [HN.out] at HE2 hbvo
        have c11q : ∀ q : Cls W4, q.at.cell? ⟨bn, 0, none⟩ = some (.slice An m2 cn) := fun q => q.cell (hbvn.cell 0)
        have c13q : ∀ q : Cls W4, q.at.cell? ⟨bo, 0, none⟩ = some (.slice Ao n co) := fun q => q.cell (hbvo.cell 0)
        have c7q : ∀ q : Cls W4, q.at.cell? ⟨bi, 0, none⟩ = some (.slice (some ⟨g, 0, none⟩) n cap) := fun q => q.cell ((HI7.out.below HWB4.out).cell 0)
        have c10q : ∀ q : Cls W4, q.at.cell? ⟨W.heap.size, 0, none⟩ = some (.int .i64 m2) := fun q => q.cell ((HBMW3.out.below HB34.out).cell 0)
        have hz0 : (0 : Int) ≤ (m2 : Int) := by omega
        have hcapi : (m2 : Int) ≤ (cap : Int) := by have := HCAP.out; omega
        clear hbvn hRn hCn hbvo hRo hCo hbt4 h32t hmt
        apply wpIn_seq_k
        intro _ _
        apply wpIn_seq_k
        intro K8 hK8
        dsimp only
        refine round_region_cls (by kernel_rfl) (by kernel_rfl) (by kernel_rfl) ?_
        iterate 5 (go_big_quiet_step (refine cls_call (HE1.out _ (Cls.below _))))
        repeat (go_big_quiet_step (refine cls_call (HE2.out _ (Cls.below _))))
        refine wpQuiet_nil ?_
        rintro wz ⟨qq, rfl⟩
        have HB45 := Lib.hid qq.below
        obtain ⟨w5, hw5⟩ : ∃ w5, qq.at = w5 := ⟨_, rfl⟩
        rw [hw5] at HB45 ⊢
        clear hw5 qq c11q c13q c7q c10q HE1 HE2
        simp only [Exit.then]
        refine hK8 _ _ ?_
        have HXL := Lib.hid (show xi.length = 32 from H32.out _ (HPX.out.subset (by simp)))
        have HW5 := Lib.hid (HWB4.out.trans (HB45.out.mono HWB4.out.size))
        have HR5 := Lib.hid (Kd.R_below HR.out HW5.out)
        have HBV5 := Lib.hid (HBV.out.below HW5.out)
        have HBT5 := Lib.hid (HBT.out.trans (But.of_below HW5.out))
        have c8 : w5.cell? ⟨bg_, 0, none⟩ = some (.slice Ag q cg) := HBV5.out.cell 0
        have HL9 := Lib.hid ((HX9.out.below HW5.out).loads 33 Tryd.isAgg33 (fun W => by rw [List.length_map, HXL.out]; exact Tryd.sizeOf33 W))
        have HI5 := Lib.hid (HI7.out.below HW5.out)
        have HWZ := Lib.hid (show ∀ w7, Below w9.heap.size w5 w7 → w7.cell? ⟨bg_, 0, none⟩ = some (.slice Ag q cg) ∧ w7.frozen? ⟨bg_, 0, none⟩ = false from fun w7 h7 => by
          have hb : Blk w7 bg_ 44 [.slice Ag q cg] := (h7.block bg_ HBG9.out).trans HBV5.out
          exact ⟨hb.cell 0, hb.frozen 0⟩)
        have C7Z := Lib.hid (show ∀ w7, Below w9.heap.size w5 w7 → ∀ v, (w7.setCell ⟨bg_, 0, none⟩ v).cell? ⟨bi, 0, none⟩ = some (.slice (some ⟨g, 0, none⟩) n cap) from fun w7 h7 v => by
          have hb : Blk w7 bi 44 [.slice (some ⟨g, 0, none⟩) n cap] := (h7.block bi (by have h1 := HBI.out; have h2 := HBG.out; have h3 := HBG9.out; have h4 := HI8.out.lt; omega)).trans HI5.out
          exact (hb.but ((But.refl _ _).set 0 v) (by have h1 := HBI.out; have h2 := HBG.out; have h3 := HI8.out.lt; omega)).cell 0)
        have HEN := Lib.hid (show (cl xi).length = 32 from by rw [List.length_map]; exact HXL.out)
        have hen := HEN.out
        clear hK8 K8
        go_wp2_with (first | (with_reducible refine wpList_ld rfl 33 (.tmp 9) rfl ⟨b9, 0, none⟩ rfl _ HL9.out ?_) | (at_builtin; rw [fill_cells _ _ (HEN.out.trans rfl)]; refine Kd.R_append kI (W := w5) (w0 := w5) w9.heap.size rfl (.tmp 85) (.tmp 87) 44 33 _ 32 rfl Tryd.underlying44 info33 (by decide) (by decide) (by decide) (.slice Ag q cg) L0 xi (cl xi) (fun k => w9.heap.size ≤ k) (fun _ => False) rfl (by simp [Act.eval]) ⟨HXL.out, rfl⟩ (fun _ hk => hk.elim) (fun k hk => Nat.le_trans HBT5.out.size hk) HR5.out (Below.refl _ _) HBT5.out.size (by rw [HQ.out]; omega) ?_; intro v7 w7 hr7 hb7 hg7 hat7; obtain ⟨A7, c7', hv7⟩ := Kd.R_slice hr7; rw [List.length_append, List.length_singleton, HQ.out] at hv7; subst hv7; have HR7 := Lib.hid hr7; have HB7 := Lib.hid hb7; have HG7 := Lib.hid hg7; have HA7 := Lib.hid hat7; have c13z := (HWZ.out w7 hb7).1; have f13z := (HWZ.out w7 hb7).2; have c7z := C7Z.out w7 hb7; clear hr7 hb7 hg7 hat7) | (refine round_region (by rfl) (fun K5 hK5 => ?_)) | gi_step)
        refine hK5 _ _ ?_
        simp only [Exit.then]
        go_wp2_with fail
        refine wpIn_cond_false (congrArg Value.bool (decide_eq_false (by omega))) ?_
        refine wpIn_skip ?_
        obtain ⟨s1, s2, s3, s4⟩ := gather_step HBG9.out HBT5.out HBV5.out HR5.out HR7.out HB7.out HG7.out HA7.out
        show Exit.inBlock _ _ Exit.normal _ _
        simp only [Exit.inBlock, Exit.then, ↓reduceIte]
        exact ⟨(KeepsBk.of_below HW5.out).trans s1, (KpS.of_below HMO.out HBT.out.size HW5.out).trans s2, s3, by rw [List.map_append, HL0.out]; exact s4⟩
      clear hK6
      go_wp2_with (first | (apply wpIn_seq_k; intro _ _) | (with_reducible apply wpIn_block) | (refine round_region (by rfl) (fun _ _ => ?_)))
      refine range_inner (α := By × Value) hrrj (gf := 40) (lb := #[.pointer (some ⟨by_, 0, none⟩)]) rfl (enters_of Tryd.func40 (by kernel_rfl) rfl) HSEJ.out (Below.refl _ _) (fun _ => rfl) (fun h k => KpS.trans h k) (fun W l o o' hl ho => KpS.turn (mineB_turn) W l o o' hl ho)
        (fun (pre : List (By × Value)) W => But bo wj W ∧ GotAt bo wj.heap.size (pre.map (fun x : By × Value => x.1)) W) (fun _ _ _ => False) (gathers_abid HBO.out.lt) (fun _ => abid_false _) HIJ0.out
        (fun (pre : List (By × Value)) (x : By × Value) a' W' => ∃ b14, wj.heap.size ≤ b14 ∧ Blk W' b14 33 (cl x.1) ∧ (pre ++ [x]).map (fun x : By × Value => x.1) <+: D ∧ (∃ b, (x.1, b) ∈ its ∧ Kd.R kB 5 W' wj.heap.size (fun k => wj.heap.size ≤ k) x.2 b) ∧ a' = { tmps := #[.agg #[.slice A M cA, .slice G K cG, .int .i64 NN], .pointer (some ⟨w.heap.size, 0, none⟩), .pointer (some ⟨w.heap.size + 1, 0, none⟩), .pointer (some ⟨ks, 0, none⟩), .bool true, .pointer (some ⟨bf, 0, none⟩), .pointer (some ⟨bh, 0, none⟩), .pointer (some ⟨bi, 0, none⟩), .pointer (some ⟨bg_, 0, none⟩), .pointer (some ⟨b9, 0, none⟩), .pointer (some ⟨W.heap.size, 0, none⟩), .pointer (some ⟨bn, 0, none⟩), undef, .pointer (some ⟨bo, 0, none⟩), .pointer (some ⟨b14, 0, none⟩), x.2, .tuple #[.pointer (some ⟨ks, 0, none⟩), .bool true], .agg #[.slice A M cA, .slice G K cG, .int .i64 NN], .tuple #[.pointer (some ⟨ks, 0, none⟩), .bool true], .pointer (some ⟨ks, 0, none⟩), .bool true, .bool true, .bool false, .pointer (some ⟨ks, 0, none⟩), .func (.func 40) #[] #[.pointer (some ⟨bx, 0, none⟩)], .pointer (some ⟨ks, 0, none⟩), .func (.func 40) #[] #[.pointer (some ⟨by_, 0, none⟩)], .pointer (some ⟨ks, 0, none⟩), .slice (some ⟨g, 0, none⟩) n cap, .func (.func 40) #[] #[.pointer (some ⟨bx, 0, none⟩)], .bool false, .bool false, .func (.func 40) #[] #[.pointer (some ⟨by_, 0, none⟩)], .bool false, .bool false, .func (.func 40) #[] #[.pointer (some ⟨bx, 0, none⟩)], vId xi, xv, .pointer (some ⟨w.heap.size, 2, none⟩), .int .i64 NN, .slice (some ⟨g, 0, none⟩) n cap, .int .i64 n, .int .i64 ((n : Int) + 1), .int .i64 m1, .slice Ag q cg, .int .i64 q, .int .i64 ((m1 : Int) + (q : Int)), .slice (some ⟨g, 0, none⟩) n cap, .int .i64 n, .int .i64 ((n : Int) + 1), .int .i64 m2, .func (.func 40) #[] #[.pointer (some ⟨bx, 0, none⟩)], undef, undef, undef, undef, undef, undef, undef, undef, undef, undef, .func (.func 40) #[] #[.pointer (some ⟨by_, 0, none⟩)], vId x.1, x.2, undef, undef, undef, undef, undef, undef, undef, undef, undef, undef, undef, undef, undef, undef, undef, undef, undef, undef, undef, undef, undef, undef, undef, undef, undef, undef, undef, undef, undef, undef, undef, undef], defers := [] }) (fun pre x a' => ⟨fun s A B ⟨b9, h1, h2, h3, ⟨b, h5, h6⟩, h4⟩ hb => ⟨b9, h1, h2.below hb, h3, ⟨b, h5, Kd.R_below h6 hb⟩, h4⟩, fun s W l o o' hl ho ⟨b9, h1, h2, h3, ⟨b, h5, h6⟩, h4⟩ => ⟨b9, h1, blk_turn ho h2, h3, ⟨b, h5, R_turn ho h6⟩, h4⟩⟩) ?assign2 ?body2 ?done2 ?stop2
      case assign2 =>
        rintro l2 pre2 ⟨yi, yv⟩ W2 K2 ⟨hbt2, hgot2⟩ ⟨hpx2, b, hbm, hrb⟩ hK2 nn2
        have HX := Lib.hid (show yi.length = 32 from H32.out _ (hpx2.subset (by simp)))
        obtain ⟨wa, hwa⟩ : ∃ wa, W2.alloc (.cells (noughts 32).toArray 33) = wa := ⟨_, rfl⟩
        have HWA := Lib.hid hwa
        have HIa := Lib.hid (show Blk wa W2.heap.size 33 (noughts 32) from hwa ▸ Blk.new W2 33 _)
        have HBa := Lib.hid (show Below W2.heap.size W2 wa from hwa ▸ below_alloc (Below.refl _ _) _)
        have HTH := Lib.hid (HIa.out.there 0 (cl yi).toArray.size (by rw [List.size_toArray, List.length_map, HX.out]; simp))
        have HSZ := Lib.hid (size33' HX.out)
        have HON := Lib.hid (one33 yi)
        have HIb := Lib.hid (setCell_zero33 wa _ yi HX.out HIa.out)
        have HBb := Lib.hid (show Below W2.heap.size W2 (wa.setCells W2.heap.size 0 (cl yi)) from (But.setCells (k := W2.heap.size) (cl yi) 0 wa (But.of_below HBa.out)).new (Nat.le_refl _))
        have HK2 := Lib.hid hK2
        have HPX2 := Lib.hid hpx2
        have HBT2 := Lib.hid hbt2
        have HGT2 := Lib.hid hgot2
        have HRB := Lib.hid (show ∃ b, (yi, b) ∈ its ∧ Kd.R kB 5 (wa.setCells W2.heap.size 0 (cl yi)) wj.heap.size (fun k => wj.heap.size ≤ k) yv b from ⟨b, hbm, Kd.R_below hrb HBb.out⟩)
        clear hwa hK2 hpx2 hbt2 hgot2 hbm hrb
        apply wpIn_seq_k
        intro K7 hK7
        refine round_region (by rfl) (fun K' hK' => ?_)
        dsimp only [List.zip_toArray]
        go_wp2_with (first | ((change wpList _ _ _ _ _ (W2.alloc (.cells (noughts 32).toArray 33))); rw [HWA.out]; refine wpList_store_mid rfl 33 (.tmp 14) (.tmp 63) rfl W2.heap.size 0 (cl yi).toArray rfl rfl HTH.out HSZ.out HON.out ?_))
        refine round_region (by rfl) (fun K9 hK9 => ?_)
        go_wp2_with fail
        refine hK9 _ _ ?_
        exact HK2.out _ _ (KeepsBk.of_below HBb.out) (KpS.of_below HMOJ.out HBT2.out.size HBb.out) ⟨HBT2.out.trans (But.of_below HBb.out), HGT2.out.below HBb.out⟩ ⟨W2.heap.size, HBT2.out.size, HIb.out, HPX2.out, HRB.out, rfl⟩
      case body2 =>
        rintro l2 pre2 ⟨yi, yv⟩ a2 W2 hl2 hr2 ⟨hbt2, hgot2⟩ ⟨b14, hb14, hbx14, hpx2, ⟨b, hbm, hrb⟩, rfl⟩ nn2
        have HPX2 := Lib.hid (show pre2.map (fun x : By × Value => x.1) ++ [yi] <+: D from by simpa using hpx2)
        have HYL := Lib.hid (show yi.length = 32 from H32.out _ (hpx2.subset (by simp)))
        obtain ⟨hgd1, hgd2, _⟩ := HFL.out.good _ hbm
        have HDG := Lib.hid (show dig bg rk b = yi from hgd1.symm)
        have HBB := Lib.hid (show b.length ≤ 65536 from pe_len hgd2)
        obtain ⟨Ay, cy, rfl⟩ := Kd.R_slice hrb
        obtain ⟨_, hcy, hCy⟩ := Kd.R_reads' hrb
        obtain ⟨v, hbv, hR⟩ := hgot2
        have HML := Lib.hid (show (pre2 ++ [(yi, Value.slice Ay b.length cy)]).map (fun x : By × Value => x.1) = pre2.map (fun x : By × Value => x.1) ++ [yi] from by simp)
        obtain ⟨L2, hL2⟩ : ∃ L2 : List By, pre2.map (fun x : By × Value => x.1) = L2 := ⟨_, rfl⟩
        rw [hL2] at hR HPX2 HML
        obtain ⟨An, cn, rfl⟩ := Kd.R_slice hR
        obtain ⟨q2, hq2⟩ : ∃ q2, L2.length = q2 := ⟨_, rfl⟩
        have HQ2 := Lib.hid hq2
        rw [hq2] at hbv hR
        have hq2n : q2 ≤ n := by
          have h1 := HPX2.out.length_le
          rw [List.length_append, List.length_singleton, HQ2.out, HN.out] at h1
          omega
        have HR2 := Lib.hid hR
        have HBV2 := Lib.hid hbv
        have HBT2 := Lib.hid hbt2
        have HBW2 := Lib.hid (below_but HWWJ.out hbt2 (by have h1 := HWB3.out.size; have h2 := HBOE.out; omega) HWWJ.out.size)
        have HTW := Lib.hid ((HT1.out.below (below_but (HB2.out.trans (HB29.out.mono HB2.out.size)) HBT.out (by have h1 := HB2.out.size; omega) (by have h1 := HB2.out.size; have h2 := HB29.out.size; omega))).below HBW2.out)
        have HIX := Lib.hid (fun w' (hw : Below W2.heap.size W2 w') => id_walk bg rk b Ay cy w' (HTW.out.below hw) (Kd.C_below hCy hw) hcy (Nat.le_trans HBB.out (by decide)))
        rw [HDG.out] at HIX
        obtain ⟨N, hN⟩ : ∃ N, b.length = N := ⟨_, rfl⟩
        rw [hN] at HIX HML ⊢
        have HL1 := Lib.hid (fun w' (h : Below W2.heap.size W2 w') => (hbx14.below h).loads 33 Tryd.isAgg33 (fun W => by rw [List.length_map, HYL.out]; exact Tryd.sizeOf33 W))
        have hnq : ∀ W, (binOp .neq 33 (vId yi) (vId yi)).run Tryd.prog W = .ok (.bool false) W := fun W => by rw [neq33 HYL.out HYL.out, decide_eq_true rfl]; rfl
        have hgd := fun (a b : Operand) => guard33 .neq a b yi yi
        clear hL2 hq2 hbv hR hpx2 hbt2 hbx14 hbm hrb hcy hCy hgd1 hgd2 hN c6j
        refine wpIn_block ?_
        apply wpIn_seq_k
        intro _ _
        apply wpIn_seq_k
        intro K8 hK8
        dsimp only
        refine round_region_cls (by kernel_rfl) (by kernel_rfl) (by kernel_rfl) ?_
        repeat (first | go_big_quiet_skip | (go_big_quiet_want; refine quiet_ld 33 (.tmp 14) rfl ⟨b14, 0, none⟩ rfl (vId yi) HL1.out ?_; (try simp only [Act.put, List.setIfInBounds_toArray, List.set_cons_zero, List.set_cons_succ]); go_big_quiet_on) | go_big_quiet_step (refine cls_call (HIX.out _ (Cls.below _))))
        refine wpQuiet_nil ?_
        rintro wy ⟨qq, rfl⟩
        have HB25 := Lib.hid qq.below
        obtain ⟨w5', hw5'⟩ : ∃ w5', qq.at = w5' := ⟨_, rfl⟩
        rw [hw5'] at HB25 ⊢
        clear hw5' qq hnq hgd HIX
        simp only [Exit.then]
        refine hK8 _ _ ?_
        have HLD14 := Lib.hid (HL1.out w5' HB25.out)
        have HR5 := Lib.hid (Kd.R_below HR2.out HB25.out)
        have HBV5 := Lib.hid (HBV2.out.below HB25.out)
        have HBT5 := Lib.hid (HBT2.out.trans (But.of_below HB25.out))
        have c13 : w5'.cell? ⟨bo, 0, none⟩ = some (.slice An q2 cn) := HBV5.out.cell 0
        have HWZ := Lib.hid (show ∀ w7, Below wj.heap.size w5' w7 → w7.cell? ⟨bo, 0, none⟩ = some (.slice An q2 cn) ∧ w7.frozen? ⟨bo, 0, none⟩ = false from fun w7 h7 => by
          have hb : Blk w7 bo 44 [.slice An q2 cn] := (h7.block bo HBO.out.lt).trans HBV5.out
          exact ⟨hb.cell 0, hb.frozen 0⟩)
        have HEN := Lib.hid (show (cl yi).length = 32 from by rw [List.length_map]; exact HYL.out)
        have hen := HEN.out
        clear hK8 K8 HL1
        go_wp2_with (first | (with_reducible refine wpList_ld rfl 33 (.tmp 14) rfl ⟨b14, 0, none⟩ rfl _ HLD14.out ?_) | (at_builtin; rw [fill_cells _ _ (HEN.out.trans rfl)]; refine Kd.R_append kI (W := w5') (w0 := w5') wj.heap.size rfl (.tmp 69) (.tmp 71) 44 33 _ 32 rfl Tryd.underlying44 info33 (by decide) (by decide) (by decide) (.slice An q2 cn) L2 yi (cl yi) (fun k => wj.heap.size ≤ k) (fun _ => False) rfl (by simp [Act.eval]) ⟨HYL.out, rfl⟩ (fun _ hk => hk.elim) (fun k hk => Nat.le_trans HBT5.out.size hk) HR5.out (Below.refl _ _) HBT5.out.size (by rw [HQ2.out]; omega) ?_; intro v7 w7 hr7 hb7 hg7 hat7; obtain ⟨A7, c7', hv7⟩ := Kd.R_slice hr7; rw [List.length_append, List.length_singleton, HQ2.out] at hv7; subst hv7; have HR7 := Lib.hid hr7; have HB7 := Lib.hid hb7; have HG7 := Lib.hid hg7; have HA7 := Lib.hid hat7; have c13z := (HWZ.out w7 hb7).1; have f13z := (HWZ.out w7 hb7).2; clear hr7 hb7 hg7 hat7) | (refine round_region (by rfl) (fun K5 hK5 => ?_)) | gi_step)
        obtain ⟨s1, s2, s3, s4⟩ := gather_step HBO.out.lt HBT5.out HBV5.out HR5.out HR7.out HB7.out HG7.out HA7.out
        exact ⟨(KeepsBk.of_below HB25.out).trans s1, (KpS.of_below HMOJ.out HBT2.out.size HB25.out).trans s2, s3, by rw [HML.out]; exact s4⟩
      case done2 =>
        rintro xs W4 hS ⟨hbt4, hgot4⟩
        simp only [Exit.inBlock, Exit.then, ↓reduceIte]
        exact rest2 W4 hbt4 (by rw [← hS]; exact hgot4)
      case stop2 =>
        rintro c pre2 W4 _ hx
        exact hx.elim
    clear hK3
    go_wp2_with (first | (apply wpIn_seq_k; intro _ _) | (with_reducible apply wpIn_block) | (refine round_region (by rfl) (fun _ _ => ?_)))
    refine range_inner (α := By × Value) hrri (gf := 40) (lb := #[.pointer (some ⟨bx, 0, none⟩)]) rfl (enters_of Tryd.func40 (by kernel_rfl) rfl) HSEI.out (Below.refl _ _) (fun _ => rfl) (fun h k => KpS.trans h k) (fun W l o o' hl ho => KpS.turn (mineB_turn) W l o o' hl ho)
      (fun (pre : List (By × Value)) W => But bn wi W ∧ GotAt bn wi.heap.size (pre.map (fun x : By × Value => x.1)) W ∧ pre.length ≤ m2) (fun c _ W => c = .exit 2 ∧ But bn wi W ∧ GotAt bn wi.heap.size (D.take m2) W) (gathers2_abid HBN.out.lt _) (fun c => gathersC_abid HBN.out.lt _ _) HII0.out
      (fun (pre : List (By × Value)) (x : By × Value) a' W' => ∃ b12, wi.heap.size ≤ b12 ∧ Blk W' b12 33 (cl x.1) ∧ (pre ++ [x]).map (fun x : By × Value => x.1) <+: D ∧ a' = { tmps := #[.agg #[.slice A M cA, .slice G K cG, .int .i64 NN], .pointer (some ⟨w.heap.size, 0, none⟩), .pointer (some ⟨w.heap.size + 1, 0, none⟩), .pointer (some ⟨ks, 0, none⟩), .bool true, .pointer (some ⟨bf, 0, none⟩), .pointer (some ⟨bh, 0, none⟩), .pointer (some ⟨bi, 0, none⟩), .pointer (some ⟨bg_, 0, none⟩), .pointer (some ⟨b9, 0, none⟩), .pointer (some ⟨W.heap.size, 0, none⟩), .pointer (some ⟨bn, 0, none⟩), .pointer (some ⟨b12, 0, none⟩), undef, undef, undef, .tuple #[.pointer (some ⟨ks, 0, none⟩), .bool true], .agg #[.slice A M cA, .slice G K cG, .int .i64 NN], .tuple #[.pointer (some ⟨ks, 0, none⟩), .bool true], .pointer (some ⟨ks, 0, none⟩), .bool true, .bool true, .bool false, .pointer (some ⟨ks, 0, none⟩), .func (.func 40) #[] #[.pointer (some ⟨bx, 0, none⟩)], .pointer (some ⟨ks, 0, none⟩), .func (.func 40) #[] #[.pointer (some ⟨by_, 0, none⟩)], .pointer (some ⟨ks, 0, none⟩), .slice (some ⟨g, 0, none⟩) n cap, .func (.func 40) #[] #[.pointer (some ⟨bx, 0, none⟩)], .bool false, .bool false, .func (.func 40) #[] #[.pointer (some ⟨by_, 0, none⟩)], .bool false, .bool false, .func (.func 40) #[] #[.pointer (some ⟨bx, 0, none⟩)], vId xi, xv, .pointer (some ⟨w.heap.size, 2, none⟩), .int .i64 NN, .slice (some ⟨g, 0, none⟩) n cap, .int .i64 n, .int .i64 ((n : Int) + 1), .int .i64 m1, .slice Ag q cg, .int .i64 q, .int .i64 ((m1 : Int) + (q : Int)), .slice (some ⟨g, 0, none⟩) n cap, .int .i64 n, .int .i64 ((n : Int) + 1), .int .i64 m2, .func (.func 40) #[] #[.pointer (some ⟨bx, 0, none⟩)], vId x.1, x.2, undef, undef, undef, undef, undef, undef, undef, undef, undef, undef, undef, undef, undef, undef, undef, undef, undef, undef, undef, undef, undef, undef, undef, undef, undef, undef, undef, undef, undef, undef, undef, undef, undef, undef, undef, undef, undef, undef, undef, undef, undef, undef, undef], defers := [] }) (fun pre x a' => ⟨fun s A B ⟨b9, h1, h2, h3, h4⟩ hb => ⟨b9, h1, h2.below hb, h3, h4⟩, fun s W l o o' hl ho ⟨b9, h1, h2, h3, h4⟩ => ⟨b9, h1, blk_turn ho h2, h3, h4⟩⟩) ?assign1 ?body1 ?done1 ?stop1
    case assign1 =>
      rintro l2 pre2 ⟨yi, yv⟩ W2 K2 ⟨hbt2, hgot2, hle2⟩ ⟨hpx2, b, hbm, hrb⟩ hK2 nn2
      have HX := Lib.hid (show yi.length = 32 from H32.out _ (hpx2.subset (by simp)))
      obtain ⟨wa, hwa⟩ : ∃ wa, W2.alloc (.cells (noughts 32).toArray 33) = wa := ⟨_, rfl⟩
      have HWA := Lib.hid hwa
      have HIa := Lib.hid (show Blk wa W2.heap.size 33 (noughts 32) from hwa ▸ Blk.new W2 33 _)
      have HBa := Lib.hid (show Below W2.heap.size W2 wa from hwa ▸ below_alloc (Below.refl _ _) _)
      have HTH := Lib.hid (HIa.out.there 0 (cl yi).toArray.size (by rw [List.size_toArray, List.length_map, HX.out]; simp))
      have HSZ := Lib.hid (size33' HX.out)
      have HON := Lib.hid (one33 yi)
      have HIb := Lib.hid (setCell_zero33 wa _ yi HX.out HIa.out)
      have HBb := Lib.hid (show Below W2.heap.size W2 (wa.setCells W2.heap.size 0 (cl yi)) from (But.setCells (k := W2.heap.size) (cl yi) 0 wa (But.of_below HBa.out)).new (Nat.le_refl _))
      have HK2 := Lib.hid hK2
      have HPX2 := Lib.hid hpx2
      have HBT2 := Lib.hid hbt2
      have HGT2 := Lib.hid hgot2
      clear hwa hK2 hpx2 hbt2 hgot2
      refine round_region (by rfl) (fun K' hK' => ?_)
      dsimp only [List.zip_toArray]
      go_wp2_with (first | ((change wpList _ _ _ _ _ (W2.alloc (.cells (noughts 32).toArray 33))); rw [HWA.out]; refine wpList_store_mid rfl 33 (.tmp 12) (.tmp 52) rfl W2.heap.size 0 (cl yi).toArray rfl rfl HTH.out HSZ.out HON.out ?_))
      exact HK2.out _ _ (KeepsBk.of_below HBb.out) (KpS.of_below HMOI.out HBT2.out.size HBb.out) ⟨HBT2.out.trans (But.of_below HBb.out), HGT2.out.below HBb.out, hle2⟩ ⟨W2.heap.size, HBT2.out.size, HIb.out, HPX2.out, rfl⟩
    case body1 =>
      rintro l2 pre2 ⟨yi, yv⟩ a2 W2 hl2 hr2 ⟨hbt2, hgot2, hle2⟩ ⟨b12, hb12, hbx12, hpx2, rfl⟩ nn2
      have HPX2 := Lib.hid (show pre2.map (fun x : By × Value => x.1) ++ [yi] <+: D from by simpa using hpx2)
      have HYL := Lib.hid (show yi.length = 32 from H32.out _ (hpx2.subset (by simp)))
      obtain ⟨v, hbv, hR⟩ := hgot2
      have HML := Lib.hid (show (pre2 ++ [(yi, yv)]).map (fun x : By × Value => x.1) = pre2.map (fun x : By × Value => x.1) ++ [yi] from by simp)
      have hlen : (pre2.map (fun x : By × Value => x.1)).length = pre2.length := List.length_map _
      obtain ⟨L2, hL2⟩ : ∃ L2 : List By, pre2.map (fun x : By × Value => x.1) = L2 := ⟨_, rfl⟩
      rw [hL2] at hR HPX2 HML hlen
      obtain ⟨An, cn, rfl⟩ := Kd.R_slice hR
      obtain ⟨q2, hq2⟩ : ∃ q2, L2.length = q2 := ⟨_, rfl⟩
      have HQ2 := Lib.hid hq2
      rw [hq2] at hbv hR hlen
      have hle2' : q2 ≤ m2 := by rw [hlen]; exact hle2
      have HR2 := Lib.hid hR
      have HBV2 := Lib.hid hbv
      have HBT2 := Lib.hid hbt2
      have HLEN := Lib.hid hlen
      have c11 : W2.cell? ⟨bn, 0, none⟩ = some (.slice An q2 cn) := hbv.cell 0
      have c10 : W2.cell? ⟨W.heap.size, 0, none⟩ = some (.int .i64 m2) := ((HBM.out.below HWI.out).but hbt2 (by have := HBM.out.lt; have := HBNE.out; omega)).cell 0
      have HLD12 := Lib.hid (hbx12.loads 33 Tryd.isAgg33 (fun W => by rw [List.length_map, HYL.out]; exact Tryd.sizeOf33 W))
      clear hL2 hq2 hbv hR hpx2 hbt2 hle2 hbx12 hlen c5i
      by_cases hqm : q2 = m2
      · subst hqm
        have HDT := Lib.hid (show L2 = D.take q2 from by
          obtain ⟨t, ht⟩ := HPX2.out
          rw [← ht, List.append_assoc, List.take_append_of_le_length (by rw [HQ2.out]; exact Nat.le_refl _), List.take_of_length_le (by rw [HQ2.out]; exact Nat.le_refl _)])
        have hqe : ((q2 : Int) == (q2 : Int)) = true := by simp
        go_wp2_with (first | (refine round_region (by rfl) (fun _ _ => ?_)) | gi_step)
        exact ⟨KeepsBk.refl _, rfl, HBT2.out, _, HBV2.out, by rw [← HDT.out]; exact HR2.out⟩
      · have hne1 : ((q2 : Int) == (m2 : Int)) = false := by simp; omega
        have hne2 : ¬ (q2 : Int) = (m2 : Int) := by omega
        have HWZ := Lib.hid (show ∀ w7, Below wi.heap.size W2 w7 → w7.cell? ⟨bn, 0, none⟩ = some (.slice An q2 cn) ∧ w7.frozen? ⟨bn, 0, none⟩ = false from fun w7 h7 => by
          have hb : Blk w7 bn 44 [.slice An q2 cn] := (h7.block bn HBN.out.lt).trans HBV2.out
          exact ⟨hb.cell 0, hb.frozen 0⟩)
        have HEN := Lib.hid (show (cl yi).length = 32 from by rw [List.length_map]; exact HYL.out)
        have hen := HEN.out
        go_wp2_with (first | (with_reducible refine wpList_ld rfl 33 (.tmp 12) rfl ⟨b12, 0, none⟩ rfl _ HLD12.out ?_) | (at_builtin; rw [fill_cells _ _ (HEN.out.trans rfl)]; refine Kd.R_append kI (W := W2) (w0 := W2) wi.heap.size rfl (.tmp 58) (.tmp 60) 44 33 _ 32 rfl Tryd.underlying44 info33 (by decide) (by decide) (by decide) (.slice An q2 cn) L2 yi (cl yi) (fun k => wi.heap.size ≤ k) (fun _ => False) rfl (by simp [Act.eval]) ⟨HYL.out, rfl⟩ (fun _ hk => hk.elim) (fun k hk => Nat.le_trans HBT2.out.size hk) HR2.out (Below.refl _ _) HBT2.out.size (by rw [HQ2.out]; omega) ?_; intro v7 w7 hr7 hb7 hg7 hat7; obtain ⟨A7, c7', hv7⟩ := Kd.R_slice hr7; rw [List.length_append, List.length_singleton, HQ2.out] at hv7; subst hv7; have HR7 := Lib.hid hr7; have HB7 := Lib.hid hb7; have HG7 := Lib.hid hg7; have HA7 := Lib.hid hat7; have c11z := (HWZ.out w7 hb7).1; have f11z := (HWZ.out w7 hb7).2; clear hr7 hb7 hg7 hat7) | (refine round_region (by rfl) (fun K5 hK5 => ?_)) | gi_step)
        obtain ⟨s1, s2, s3, s4⟩ := gather_step HBN.out.lt HBT2.out HBV2.out HR2.out HR7.out HB7.out HG7.out HA7.out
        refine hK5 _ _ ?_
        exact ⟨s1, s2, s3, by rw [HML.out]; exact s4, by rw [List.length_append, List.length_singleton, ← HLEN.out]; omega⟩
    case stop1 =>
      rintro c pre2 W3 hSp ⟨rfl, hbt3, hgot3⟩
      clear c5i
      apply wpIn_exit
      simp only [Exit.inBlock, Exit.then, ↓reduceIte]
      exact rest W3 hbt3 hgot3
    case done1 =>
      rintro xs W3 hS ⟨hbt3, hgot3, hle3⟩
      have hme : D.take m2 = xs.map (fun x : By × Value => x.1) := by
        rw [hS, List.take_of_length_le]
        rw [HN.out]
        have h1 : xs.length = n := by rw [← HN.out, ← hS, List.length_map]
        omega
      simp only [Exit.inBlock, Exit.then, ↓reduceIte]
      exact rest W3 hbt3 (by rw [hme]; exact hgot3)
  case done =>
    intro D2 xs W hD hS ⟨hbt, hgot⟩ hDW
    rw [hS] at hgot
    obtain ⟨v, hbv, hR⟩ := hgot
    obtain ⟨Ag, cg, rfl⟩ := Kd.R_slice hR
    obtain ⟨_, _, hCg⟩ := Kd.R_reads' hR
    have HBV := Lib.hid hbv
    have HBT := Lib.hid hbt
    have HDW := Lib.hid hDW
    have HDG := Lib.hid hD
    have c8 : W.cell? ⟨bg_, 0, none⟩ = some (.slice Ag D.length cg) := hbv.cell 0
    have c7 : W.cell? ⟨bi, 0, none⟩ = some (.slice (some ⟨g, 0, none⟩) n cap) := ((HI8.out.below HB9.out).but hbt (by have := HBI.out; have := HBG.out; have := HI8.out.lt; omega)).cell 0
    have HRB9 := Lib.hid ((HRB.out.below (HB2.out.trans (HB29.out.mono HB2.out.size))).but hbt (by have := HRB.out.lt; have := HB2.out.size; omega))
    have c2 : W.cell? ⟨w.heap.size + 1, 0, none⟩ = some (.bool false) := HRB9.out.cell 0
    have f2 := HRB9.out.frozen 0
    have HRW := Lib.hid (show RowI W g D from (HROW.out.below HG.out (HB8.out.trans (HB9.out.mono HB8.out.size))).but (Nat.lt_of_lt_of_le HG.out (Nat.le_trans HB8.out.size HB9.out.size)) hbt (by have := HG.out; have := HB8.out.size; have := HBG.out; omega))
    have HEQ := Lib.hid (eqids_walk D Ag (some ⟨g, 0, none⟩) cg cap W H32.out hCg (HRW.out.C H32.out (by have := HN.out; have := HNL.out; omega)))
    rw [HN.out] at HEQ c8
    clear hbv hR hbt hCg hDW hD
    go_wp2_with fail
    refine HEQ.out.mono ?_
    rintro e W2 ⟨rfl, hb⟩
    have c2' := pw_cell_below hb c2
    have f2' := (HRB9.out.below hb).frozen 0
    have HWB := Lib.hid hb
    have HRB2 := Lib.hid (HRB9.out.below hb)
    have HDW2 := Lib.hid (show W2.heap[D2]? = some (.deferred (some [])) from (hb.block D2 (Array.getElem?_eq_some_iff.1 HDW.out).1).trans HDW.out)
    clear hb c2 f2 HEQ c7 c8
    go_wp2_with fail
    have hne : D2 ≠ w.heap.size + 1 := by
      have h1 := HDG.out
      have h2 := HRB.out.lt
      have h3 := HB2.out.size
      have h4 := HB29.out.size
      omega
    have hset : But (w.heap.size + 1) W2 (W2.setCell ⟨w.heap.size + 1, 0, none⟩ (.bool true)) := (But.refl _ _).set 0 _
    have hdw : (W2.setCell ⟨w.heap.size + 1, 0, none⟩ (.bool true)).heap[D2]? = some (.deferred (some [])) := (hset.block D2 (Array.getElem?_eq_some_iff.1 HDW2.out).1 hne).trans HDW2.out
    have hbl : Blk ((W2.setCell ⟨w.heap.size + 1, 0, none⟩ (.bool true)).putObj D2 (.deferred none)) (w.heap.size + 1) 4 [Value.bool true] := (World.putObj_heap_other (Ne.symm hne)).trans (HRB2.out.set 0 (.bool true))
    refine ⟨by simp, .inl ⟨_, _, rfl, run_takeDeferred hdw, ?_⟩⟩
    refine ⟨_, results_box rfl rfl hbl, rfl, ?_⟩
    have hs9 : w.heap.size ≤ w9.heap.size := HBW9.out.size
    have hg9 : w.heap.size ≤ bg_ := by
      have h1 := HB0r.out.size
      have h2 := HB2.out.size
      omega
    have b1 : Below w.heap.size w W := below_but HBW9.out HBT.out hg9 hs9
    have b2 : Below w.heap.size w W2 := b1.trans (HWB.out.mono b1.size)
    have b3 := below_but b2 hset (by omega) b2.size
    exact below_but b3 (but_put' D2 _ _) (by have := HDG.out; omega) b3.size
  case stop =>
    intro D2 c pre W _ _ hx _
    exact hx.elim
end Go.Proofs.YtfbkkcigkpffiaaDoor.St
