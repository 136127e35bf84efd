/- The walk of the law DiskAgain. -/
import Derived.Test.YtonecajkfbdnmaaEz
import Derived.Test.YtonecajkfbdnmaaRows
import Derived.Deep.DeepHandedRow
import Derived.Deep.DeepWitnessRowRef
import Derived.ProofKit
import Derived.SizedLaws
import Derived.OpenShut
import Derived.Carry
namespace Go.Proofs.Ytonecajkfbdnmaa.Dk
open Go.Lib Go.RowKit Go.ChangeMaps Go.Proofs.Ytonecajkfbdnmaa.Mp Go.Proofs.YtonecajkfbdnmaaW.PrintWords Go.Proofs.YtonecajkfbdnmaaW.PrintLast Go.Proofs.YtonecajkfbdnmaaW.PrintMore Go.Proofs.Ytonecajkfbdnmaa.PDiskRoom Go.Proofs.Ytonecajkfbdnmaa.Dw
set_option linter.unusedVariables false
set_option linter.unusedSimpArgs false
abbrev firstOp : S58 := ⟨1, 0, 0, ⟨#[102, 105, 114, 115, 116]⟩, ⟨#[]⟩, [49], ⟨0, 0, 0⟩, []⟩
theorem firstOp_ok : OpOk firstOp := ⟨rfl, by decide, by unfold big; decide, by unfold big; decide, by decide⟩
def firstDk : Dk := ((Dk.new 67108864).play (opOf firstOp)).1
theorem first_img : firstDk.image.length = 1 := by decide +kernel
/-- What the law's loop keeps. -/
structure Agn (d : Dk) (i : Nat) : Prop where
  on : On d ((i + 1) * 4100)
  wt : d.wt ≤ (i + 1) * 4096
theorem Agn.first : Agn firstDk 0 := by
  have h0 : On (Dk.new 67108864) 0 := ⟨new_inv 67108864 (Nat.le_refl _), new_bd 67108864 (Nat.le_refl _), rfl, Int.le_refl _⟩
  have h1 := h0.play (opOf firstOp)
  have h2 := play_wt h0.inv (opOf firstOp)
  have h3 : (opOf firstOp).b.length = 1 := rfl
  have h4 : (Dk.new 67108864).wt = 0 := rfl
  rw [h3] at h1 h2
  rw [h4] at h2
  exact ⟨h1.mono (by omega), by show ((Dk.new 67108864).play (opOf firstOp)).1.wt ≤ _; omega⟩
theorem Agn.play {d : Dk} {i : Nat} (h : Agn d i) (o : POp) (hb : o.b.length ≤ 4096) : Agn (d.play o).1 (i + 1) := by
  have h2 := play_wt h.on.inv o
  have h3 := h.wt
  exact ⟨(h.on.play o).mono (by omega), by omega⟩
theorem R_keep3 {α : Type} {d : Kd α} {e : Nat} {own own' : Own} {w W : World} {base : Nat} {ok : Nat → Prop} {v : Value} {xs : List α} (h : Kd.R d e w base ok v xs) (ho : ∀ k, ok k → own k = none) (hf : Fr own own' w W) : Kd.R d e W base ok v xs :=
  Kd.R_step h (fun k hk hlt => hf.block k hlt (ho k hk))
set_option maxRecDepth 100000 in
set_option maxHeartbeats 16000000 in
theorem diskAgain_walk (w0 : World) (A1 : Option Addr) (c1 : Nat) (l1 : List S58) (off : Int) (A2 : Option Addr) (c2 : Nat) (l2 : List Int) (A3 : Option Addr) (c3 : Nat) (l3 : List S58) (A4 : Option Addr) (c4 : Nat) (l4 : List Int)
    (hC1 : Kd.C k58 w0 A1 l1.length l1) (hl1 : l1.length ≤ 1000000000000000) (ho1 : ∀ o ∈ l1, OpPre o)
    (hC2 : Kd.C (Kd.int .i64) w0 A2 l2.length l2) (hlc2 : l2.length ≤ c2) (hp2 : ∀ x ∈ l2, -9223372036854775808 ≤ x ∧ x ≤ 9223372036854775807)
    (hC3 : Kd.C k58 w0 A3 l3.length l3) (hl3 : l3.length ≤ 1000000000000000) (ho3 : ∀ o ∈ l3, OpPre o)
    (hC4 : Kd.C (Kd.int .i64) w0 A4 l4.length l4) (hlc4 : l4.length ≤ c4) (hp4 : ∀ x ∈ l4, -9223372036854775808 ≤ x ∧ x ≤ 9223372036854775807) :
    Calls Try.prog 8 #[.agg #[.slice A1 l1.length c1, .int .i64 off, .slice A2 l2.length c2, .slice A3 l3.length c3, .slice A4 l4.length c4]] w0 fun e w' => e = .returned (.bool true) ∧ Below w0.heap.size w0 w' := by
  have HF1 := Lib.hid (fun w (hb : Below w0.heap.size w0 w) => few_walk w0 w hb A1 c1 l1 hC1 hl1)
  have HO1 := Lib.hid (fun (o : S58) (h : o ∈ fewOps l1) => few_op ho1 h)
  have HF3 := Lib.hid (fun w (hb : Below w0.heap.size w0 w) => few_walk w0 w hb A3 c3 l3 hC3 hl3)
  have HO3 := Lib.hid (fun (o : S58) (h : o ∈ fewOps l3) => few_op ho3 h)
  have HCR := Lib.hid (fun (own : Own) (w : World) (kd : Nat) (blk : Nat → Nat) (d : Dk) (h : Rep own w kd blk d) (B : Nat) (ho : On d B) (hB : B ≤ 1000000000) (hb : Below w0.heap.size w0 w) => crash_walk own w kd blk d h ho.inv B ho.bd hB w0 hb A2 c2 l2 hC2 hlc2 hp2)
  have HCR4 := Lib.hid (fun (own : Own) (w : World) (kd : Nat) (blk : Nat → Nat) (d : Dk) (h : Rep own w kd blk d) (B : Nat) (ho : On d B) (hB : B ≤ 1000000000) (hb : Below w0.heap.size w0 w) => crash_walk own w kd blk d h ho.inv B ho.bd hB w0 hb A4 c4 l4 hC4 hlc4 hp4)
  have HOW := Lib.hid open_walk
  clear hC1 hC2 ho1 hp2 hlc2 hl1 hC3 hl3 ho3 hC4 hlc4 hp4
  go_enter Try.func8, Try.ntmps8
  go_upto_region 1 with (fail)
  obtain ⟨wb, hwb⟩ : ∃ wb, w0.alloc (.cells #[.slice A1 l1.length c1, .int .i64 off, .slice A2 l2.length c2, .slice A3 l3.length c3, .slice A4 l4.length c4] 65) = wb := ⟨_, rfl⟩
  obtain ⟨H0, hH0⟩ : ∃ H, w0.heap.size = H := ⟨_, rfl⟩
  have hbb : Below w0.heap.size w0 wb := hwb ▸ below_alloc (Below.refl _ _) _
  have hnb : wb.heap[H0]? = some (.cells #[.slice A1 l1.length c1, .int .i64 off, .slice A2 l2.length c2, .slice A3 l3.length c3, .slice A4 l4.length c4] 65 (0, 0)) := by rw [← hwb, ← hH0]; exact blk_new w0 _
  have hszb : H0 < wb.heap.size := by rw [← hwb, ← hH0]; simp
  rw [hwb, hH0]
  have HBB := Lib.hid hbb
  have HH0 := Lib.hid hH0
  have HNB := Lib.hid hnb
  clear hwb hbb hnb hH0
  have kc := fun (w : World) (C : Array Value) (n c : Nat) => Lib.run_convert_bytes_const (P := Try.prog) w 26 5 C n c Try.underlying26 Try.underlying5
  go_wp2_with fail
  refine (HOW.out _).mono ?_
  rintro e w2 ⟨kd, own, blk, rfl, hr2, hb2, hn2⟩
  unfold ptr
  have hown0 : ∀ k, k < wb.heap.size → own k = none := fun k hk => by
    cases e : own k with
    | none => rfl
    | some x => have h9 := hn2 k x e; omega
  have HOWN0 := Lib.hid hown0
  have HB2 := Lib.hid hb2
  have hbl : Below w2.heap.size w2 (w2.alloc (.cells #[.int .u8 49] 5 (1, 2))) := below_alloc (Below.refl _ _) _
  have hpl : Calls Try.prog 26 #[.pointer (some ⟨kd, 0, none⟩), .agg #[.int .i64 1, .int .i64 0, .int .i64 0, .string ⟨#[102, 105, 114, 115, 116]⟩, .string ⟨#[]⟩, .slice (some ⟨w2.heap.size, 0, none⟩) 1 1, .int .i64 0, .int .i64 0, .int .i64 0, .slice none 0 0]] (w2.alloc (.cells #[.int .u8 49] 5 (1, 2))) (Ends own (w2.alloc (.cells #[.int .u8 49] 5 (1, 2))) kd ((Dk.new 67108864).play (opOf firstOp))) :=
    play_op own _ kd blk (Dk.new 67108864) (hr2.below hbl) (new_inv 67108864 (Nat.le_refl _)).ok 0 (new_bd 67108864 (Nat.le_refl _)) (by omega) firstOp firstOp_ok (some ⟨w2.heap.size, 0, none⟩) 1 none 0 (Out.new hr2.lt rfl (by decide)) (by decide)
  have HPL := Lib.hid hpl
  have HBL := Lib.hid hbl
  clear hr2 hb2 hn2 hown0 hpl hbl
  go_upto_region 5 with (first | (go_at_call 26; refine HPL.out.mono ?_; rintro e w3 ⟨rfl, own1, blk1, hr3, hf3⟩; have HR3 := Lib.hid (show Rep own1 w3 kd blk1 firstDk from hr3); have HF3' := Lib.hid ((Fr.of_below (own := own) HBL.out).trans hf3); clear hr3 hf3))
  have hb03 : Below w0.heap.size w0 w3 := HBB.out.trans ((HB2.out.mono HBB.out.size).trans (HF3'.out.below (Nat.le_trans HBB.out.size HB2.out.size) (fun k hk => HOWN0.out k (Nat.lt_of_lt_of_le hk HBB.out.size))))
  have HB03 := Lib.hid hb03
  have hbox3 := (HF3'.out.block H0 (Nat.lt_of_lt_of_le hszb HB2.out.size) (HOWN0.out H0 hszb)).trans (blk_below HNB.out HB2.out)
  have n0 := blk_cell hbox3 0
  simp at n0
  have HBOX3 := Lib.hid hbox3
  have HFW := Lib.hid (HF1.out w3 hb03)
  clear hb03 hbox3 kc
  go_upto_region 6 with (first | (go_at_call 24; refine HFW.out.mono ?_; rintro e w4 ⟨v4, rfl, hr4, hb4⟩; obtain ⟨A4', c4', rfl⟩ := Kd.R_slice hr4; have HR4 := Lib.hid hr4; have HB4 := Lib.hid hb4; clear hr4 hb4))
  obtain ⟨ops, hops⟩ : ∃ ops, fewOps l1 = ops := ⟨_, rfl⟩
  have hlen := fewOps_len l1
  rw [hops] at HR4 HO1 hlen ⊢
  clear hops n0
  have hown1 : ∀ k, k < wb.heap.size → own1 k = none := fun k hk => HF3'.out.new k (Nat.lt_of_lt_of_le hk HB2.out.size) (HOWN0.out k hk)
  have HOWN1 := Lib.hid hown1
  have hsz3 : wb.heap.size ≤ w3.heap.size := Nat.le_trans HB2.out.size HF3'.out.size
  have HSZ3 := Lib.hid hsz3
  clear hown1 hsz3
  have HKEEP := Lib.hid (fun (own' : Own) (W : World) (hf : Fr own1 own' w4 W) => R_keep HR4.out HR3.out.above hf)
  have HRP := Lib.hid (HR3.out.below HB4.out)
  have HB04 := Lib.hid (HB03.out.trans (HB4.out.mono HB03.out.size))
  have HAT := Lib.hid (fun (own' : Own) (W : World) (hf : Fr own1 own' w4 W) => (⟨HB04.out.trans (hf.below HB04.out.size (fun k hk => HOWN1.out k (Nat.lt_of_lt_of_le hk HBB.out.size))), fun k hk => hf.new k (Nat.lt_of_lt_of_le hk HB04.out.size) (HOWN1.out k (Nat.lt_of_lt_of_le hk HBB.out.size)), (hf.block H0 (Nat.lt_of_lt_of_le hszb (Nat.le_trans HSZ3.out HB4.out.size)) (HOWN1.out H0 hszb)).trans (blk_below HBOX3.out HB4.out)⟩ : Below w0.heap.size w0 W ∧ (∀ k, k < w0.heap.size → own' k = none) ∧ W.heap[H0]? = some (.cells #[.slice A1 l1.length c1, .int .i64 off, .slice A2 l2.length c2, .slice A3 l3.length c3, .slice A4 l4.length c4] 65 (0, 0))))
  go_wp2_with fail
  go_loopw [5] (fun v5 wr => ∃ (i : Nat) (d : Dk) (own2 : Own) (blk2 : Nat → Nat), i ≤ ops.length ∧ v5 = .int .i64 i ∧ Agn d i ∧ (i = 0 → d = firstDk) ∧ Rep own2 wr kd blk2 d ∧ Fr own1 own2 w4 wr) (fun v5 _ => ops.length - (RowKit.intOf v5).toNat)
  case atStart => exact ⟨0, firstDk, own1, blk1, Nat.zero_le _, rfl, Agn.first, fun _ => rfl, HRP.out, Fr.refl _ _⟩
  case round =>
    obtain ⟨i, d, own2, blk2, hi, rfl, hI, hz, hr, hf⟩ := hrel
    have HI := Lib.hid hI
    have HZ := Lib.hid hz
    have HR := Lib.hid hr
    have HFI := Lib.hid hf
    clear hI hr hf hz
    have hib : i ≤ 200 := by omega
    have hiB : (i + 1) * 4100 ≤ 1000000000 := by omega
    by_cases hlt : i < ops.length
    · have qi0 : (0 : Int) ≤ (i : Int) := by omega
      have qi1 : (i : Int) < (ops.length : Int) := by omega
      obtain ⟨ad, A5, c5, A9, c9, hA6, g0, g1, g2, g3, g4, g5, g6, g7, g8, g9, l5, C5, l9, C9⟩ := op_at (Kd.R_reads' (HKEEP.out own2 wr HFI.out)).2.2 i hlt
      obtain ⟨hook, hk16, hlen5⟩ := HO1.out ops[i] (List.getElem_mem hlt)
      obtain ⟨o, ho⟩ : ∃ o, ops[i] = o := ⟨_, rfl⟩
      rw [ho] at g0 g1 g2 g3 g4 g5 g6 g7 g8 g9 l5 C5 l9 C9 hook hk16 hlen5
      subst hA6
      obtain ⟨hb0r, hown2, _⟩ := HAT.out own2 wr HFI.out
      have HPL := Lib.hid (play_op own2 wr kd blk2 d HR.out HI.out.on.inv.ok _ HI.out.on.bd hiB o hook A5 c5 A9 c9 (Out.of_in C5 hb0r hown2) hk16)
      have HNX := Lib.hid (HI.out.play (opOf o) (by show (toBy o.f5).length ≤ 4096; rw [toBy_len]; exact hlen5))
      unfold opV ptr at HPL
      clear ho C5 C9 hook hk16 l9 l5 hb0r hown2 hiB hlen5
      go_wp2_with (first | (go_at_call 26; refine HPL.out.mono ?_; rintro e w6 ⟨rfl, own3, blk3, hr6, hf6⟩; have HR6 := Lib.hid hr6; have HF6 := Lib.hid hf6; clear hr6 hf6))
      go_roundw
      case rel => exact ⟨i + 1, _, own3, blk3, by omega, by go_num, HNX.out, fun h => by omega, HR6.out, HFI.out.trans HF6.out⟩
      case measure => simp [RowKit.intOf]; omega
    · have qi1 : ¬ (i : Int) < (ops.length : Int) := by omega
      have hend : ops.length = 0 → d = firstDk := fun h => HZ.out (by omega)
      have HEND := Lib.hid hend
      clear hend
      go_upto_region 10 with (fail)
      obtain ⟨wl, hwl⟩ : ∃ wl : World, wl = wr := ⟨_, rfl⟩
      subst hwl
      have hon := HI.out.on
      have HON := Lib.hid hon
      have hwt : d.wt ≤ 67108864 := Nat.le_trans HI.out.wt (by omega)
      obtain ⟨CR, hCR⟩ : ∃ CR, d.crash l2 = CR := ⟨_, rfl⟩
      obtain ⟨I, hI⟩ : ∃ I, d.image = I := ⟨_, rfl⟩
      have hiok : IOk 67108864 CR := hCR ▸ crash_ok hon.inv hwt l2
      have hCl : ∀ x ∈ CR, x.2.length ≤ 2 * ((i + 1) * 4100) := hCR ▸ hon.crash_len l2
      have hIl : ∀ x ∈ I, x.2.length ≤ (i + 1) * 4100 := hI ▸ img_len hon
      have hI64 : I.length ≤ 64 := hI ▸ img_64 hon
      have hiC : 2 * ((i + 1) * 4100) ≤ 1000000000 := by omega
      have hone : ops.length = 0 → I.length = 1 := fun h => by rw [← hI, HEND.out h]; exact first_img
      have HIOK := Lib.hid hiok
      have HCL := Lib.hid (fun x hx => Nat.le_trans (hCl x hx) hiC)
      have HIL := Lib.hid (fun x hx => Nat.le_trans (hIl x hx) hiB)
      have HONE := Lib.hid hone
      have HI64 := Lib.hid hI64
      have honr : On (loadDk 67108864 CR) (2 * ((i + 1) * 4100)) := loadDk_on hiok (Nat.le_refl _) hCl
      have hnmr : ∀ x ∈ CR, x.1.size ≤ big := fun x hx => by
        have h9 := hiok.fa x hx
        unfold fair at h9
        simp at h9
        unfold big; omega
      have HNMR := Lib.hid hnmr
      have HONR := Lib.hid honr
      obtain ⟨BR, hBR⟩ : ∃ BR, 2 * ((i + 1) * 4100) = BR := ⟨_, rfl⟩
      have hBRb : BR ≤ 2000000 := by omega
      rw [hBR] at HONR
      have HS0 := Lib.hid (HAT.out own2 wl HFI.out)
      have HSN := Lib.hid (fun W (hb : Below wl.heap.size wl W) => show Calls Try.prog 25 #[.pointer (some ⟨kd, 0, none⟩)] W (fun e w' => ∃ v, e = .returned v ∧ Kd.R k28 28 w' W.heap.size (fun k => W.heap.size ≤ k) v (I.map encF) ∧ Below W.heap.size W w') from by
        have h9 := seen_walk own2 W kd blk2 d (HR.out.below hb) HON.out.inv.ok HON.out.inv.fa _ HON.out.bd hiB HON.out.off
        rw [hI] at h9
        exact h9)
      have HCW := Lib.hid (fun W (hb : Below wl.heap.size wl W) => show Calls Try.prog 21 #[.pointer (some ⟨kd, 0, none⟩), .slice A2 l2.length c2] W (fun e w' => ∃ v, e = .returned v ∧ Kd.R k28 28 w' W.heap.size (fun k => W.heap.size ≤ k) v (CR.map encF) ∧ Below W.heap.size W w') from by
        have h9 := HCR.out own2 W kd blk2 d (HR.out.below hb) _ HON.out hiB (HAT.out own2 W (HFI.out.trans (Fr.of_below hb))).1
        rw [hCR] at h9
        exact h9)
      have HBB0 := Lib.hid (Below.refl wl.heap.size wl)
      have HIE := Lib.hid hI
      have HCRE := Lib.hid hCR
      clear hon hwt hCR hI hiok hCl hIl hI64 hiC hone honr hnmr hBR hiB hi hlt qi1
      go_upto_region 11 with (first | (go_at_call 25; refine (HSN.out _ HBB0.out).mono ?_; rintro e w5 ⟨v5, rfl, hr5, hb5⟩; obtain ⟨A6, c6, rfl⟩ := Kd.R_slice hr5; rw [List.length_map] at hr5; have HR5 := Lib.hid hr5; have HB5 := Lib.hid hb5; clear hr5 hb5))
      have n2 := blk_cell (blk_below HS0.out.2.2 HB5.out) 2
      simp at n2
      go_upto_region 12 with (first | (go_at_call 21; refine (HCW.out _ HB5.out).mono ?_; rintro e w6 ⟨v6, rfl, hr6, hb6⟩; obtain ⟨A7, c7, rfl⟩ := Kd.R_slice hr6; rw [List.length_map] at hr6; have HR6 := Lib.hid hr6; have HB6 := Lib.hid hb6; clear hr6 hb6))
      have HCP := Lib.hid (copied_walk CR A7 c7 w6 (R_img HR6.out).1 (Nat.le_trans HIOK.out.few (by omega)) HCL.out)
      have HLD := Lib.hid (fun W A c (hC : Kd.C k28 W A CR.length (CR.map encF)) => show Calls Try.prog 11 #[.slice A CR.length c, .int .i64 67108864] W (fun e w' => Made2 W (loadDk 67108864 CR) e w') from
        (load_walk 67108864 (Nat.le_refl _) CR A c W hC (Nat.le_trans HIOK.out.few (by omega)) HNMR.out (fun x hx => Nat.le_trans (HCL.out x hx) (by omega))).mono (fun e w' h => h.1 HIOK.out))
      have HRW := Lib.hid (R_keep HR5.out HR.out.above (Fr.of_below HB6.out))
      clear n2
      go_upto_region 13 with (first | (go_at_call 35; refine HCP.out.mono ?_; rintro e w7 ⟨v7, rfl, hr7, hb7⟩; obtain ⟨A8, c8, rfl⟩ := Kd.R_slice hr7; rw [List.length_map] at hr7; have HR7 := Lib.hid hr7; have HB7 := Lib.hid hb7; clear hr7 hb7) | (go_at_call 11; refine (HLD.out _ _ _ (R_img HR7.out).1).mono ?_; rintro e w8 ⟨kr, ownr, blkr, rfl, hrr, hbr, hnr⟩; have HRR := Lib.hid hrr; have HB8 := Lib.hid hbr; have HNR := Lib.hid hnr; clear hrr hbr hnr))
      unfold ptr
      have hb56 := HB6.out
      have hb68 : Below w6.heap.size w6 w8 := HB7.out.trans (HB8.out.mono HB7.out.size)
      have hb58 : Below w5.heap.size w5 w8 := HB6.out.trans (hb68.mono HB6.out.size)
      have hbl8 : Below wl.heap.size wl w8 := HB5.out.trans (hb58.mono HB5.out.size)
      have hl7 : wl.heap.size ≤ w7.heap.size := Nat.le_trans HB5.out.size (Nat.le_trans HB6.out.size HB7.out.size)
      have h57 : w5.heap.size ≤ w7.heap.size := Nat.le_trans HB6.out.size HB7.out.size
      have h67 : w6.heap.size ≤ w7.heap.size := HB7.out.size
      have htw : Two w8 kd kr d (loadDk 67108864 CR) own2 ownr blk2 blkr := ⟨HR.out.below hbl8, HRR.out, fun k r hk => by
        have h1 := HR.out.lt k r hk
        cases e : ownr k with
        | none => rfl
        | some x => have := HNR.out k x e; omega⟩
      have hnone : ∀ k, wl.heap.size ≤ k → k < w7.heap.size → both own2 ownr k = none := fun k h1 h2 => both_none.2 ⟨HR.out.above k h1, by
        cases e : ownr k with
        | none => rfl
        | some x => have := HNR.out k x e; omega⟩
      have hrw : Kd.R k28 28 w8 wl.heap.size (fun k => wl.heap.size ≤ k ∧ k < w5.heap.size) (.slice A6 I.length c6) (I.map encF) := Kd.R_below (Kd.R_mono (Kd.R_bound HR5.out) (fun k hk => ⟨hk.1, hk.2.2.1⟩)) hb58
      have hrl : Kd.R k28 28 w8 w5.heap.size (fun k => w5.heap.size ≤ k ∧ k < w6.heap.size) (.slice A7 CR.length c7) (CR.map encF) := Kd.R_below (Kd.R_mono (Kd.R_bound HR6.out) (fun k hk => ⟨hk.1, hk.2.2.1⟩)) hb68
      have HWAS := Lib.hid (fun own' W (hf : Fr (both own2 ownr) own' w8 W) => R_img (R_keep3 hrw (fun k hk => hnone k hk.1 (Nat.lt_of_lt_of_le hk.2 h57)) hf))
      have HLL := Lib.hid (fun own' W (hf : Fr (both own2 ownr) own' w8 W) => R_img (R_keep3 hrl (fun k hk => hnone k (Nat.le_trans HB5.out.size hk.1) (Nat.lt_of_lt_of_le hk.2 h67)) hf))
      have HTW8 := Lib.hid htw
      have hs8 := HAT.out own2 w8 (HFI.out.trans (Fr.of_below hbl8))
      have hlow : ∀ k, k < w0.heap.size → both own2 ownr k = none := fun k hk => both_none.2 ⟨hs8.2.1 k hk, by
        cases e : ownr k with
        | none => rfl
        | some x => have h1 := HNR.out k x e; have h2 := HS0.out.1.size; omega⟩
      have hH0 : both own2 ownr H0 = none := both_none.2 ⟨HFI.out.new H0 (Nat.lt_of_lt_of_le hszb (Nat.le_trans HSZ3.out HB4.out.size)) (HOWN1.out H0 hszb), by
        cases e : ownr H0 with
        | none => rfl
        | some x => have h1 := HNR.out H0 x e; have h2 := blk_lt HS0.out.2.2; omega⟩
      have HAT8 := Lib.hid (fun own' W (hf : Fr (both own2 ownr) own' w8 W) => (⟨hs8.1.trans (hf.below hs8.1.size hlow), fun k hk => hf.new k (Nat.lt_of_lt_of_le hk hs8.1.size) (hlow k hk), (hf.block H0 (blk_lt hs8.2.2) hH0).trans hs8.2.2⟩ : Below w0.heap.size w0 W ∧ (∀ k, k < w0.heap.size → own' k = none) ∧ W.heap[H0]? = some (.cells #[.slice A1 l1.length c1, .int .i64 off, .slice A2 l2.length c2, .slice A3 l3.length c3, .slice A4 l4.length c4] 65 (0, 0))))
      have HSR := Lib.hid (fun W (hb : Below w8.heap.size w8 W) => show Calls Try.prog 25 #[.pointer (some ⟨kr, 0, none⟩)] W (Rows CR W) from seen_on (HRR.out.below hb) HONR.out (by omega) (loadDk_image _ _))
      have HC4 := Lib.hid (fun W (hb : Below w8.heap.size w8 W) => show Calls Try.prog 21 #[.pointer (some ⟨kr, 0, none⟩), .slice A4 l4.length c4] W (Rows CR W) from rows_of (loadDk_crash _ _ _) (HCR4.out ownr W kr blkr _ (HRR.out.below hb) BR HONR.out (by omega) (HAT8.out _ W (Fr.of_below hb)).1))
      have HIMG := Lib.hid (fun W A B c c' (ra : Kd.C k28 W A CR.length (CR.map encF) ∧ CR.length ≤ c) (rb : Kd.C k28 W B CR.length (CR.map encF) ∧ CR.length ≤ c') => show Calls Try.prog 20 #[.slice A CR.length c, .slice B CR.length c'] W (fun e w' => e = .returned (.bool true) ∧ Below W.heap.size W w') from image_same CR A B c c' W ra rb (Nat.le_trans HIOK.out.few (by omega)) HCL.out)
      have HN := Lib.hid (fun n W => num_walk n W)
      have HBZ := Lib.hid (Below.refl w8.heap.size w8)
      have N4 := Lib.hid (fun W (hb : Below w8.heap.size w8 W) => (by
        have h9 := blk_cell (HAT8.out _ W (Fr.of_below hb)).2.2 4
        simp at h9
        exact h9 : W.cell? ⟨H0, 4, none⟩ = some (.slice A4 l4.length c4)))
      have N3 := Lib.hid (fun W (hb : Below w8.heap.size w8 W) => (by
        have h9 := blk_cell (HAT8.out _ W (Fr.of_below hb)).2.2 3
        simp at h9
        exact h9 : W.cell? ⟨H0, 3, none⟩ = some (.slice A3 l3.length c3)))
      clear hb56 hb68 hb58 hbl8 hl7 h57 h67 htw hnone hrw hrl hs8 hlow hH0 HRW HBB0
      go_upto_region 15 with (first | (go_at_call 13; refine (HN.out _ _).mono ?_; rintro e wx ⟨rfl, rfl⟩) | (go_at_call 25; refine (HSR.out _ HBZ.out).mono ?_; rintro e wx ⟨Ax, cx, rfl, hrow, hbx⟩; have HRX := Lib.hid hrow; have HBZ := Lib.hid (HBZ.out.trans (hbx.mono HBZ.out.size)); clear hrow hbx) | (go_at_call 21; refine (HC4.out _ HBZ.out).mono ?_; rintro e wx ⟨Ax, cx, rfl, hrow, hbx⟩; have HRX := Lib.hid hrow; have HBZ := Lib.hid (HBZ.out.trans (hbx.mono HBZ.out.size)); clear hrow hbx) | (go_at_call 20; refine (HIMG.out _ _ _ _ _ HRX.out (HLL.out _ _ (Fr.of_below HBZ.out))).mono ?_; rintro e wx ⟨rfl, hbx⟩; have HBZ := Lib.hid (HBZ.out.trans (hbx.mono HBZ.out.size)); have n4 := N4.out _ HBZ.out; clear hbx))
      obtain ⟨wq, hwq⟩ : ∃ wq : World, wq = wx := ⟨_, rfl⟩
      subst hwq
      have n3 := N3.out _ HBZ.out
      have HFW3 := Lib.hid (HF3.out wq (HAT8.out _ wq (Fr.of_below HBZ.out)).1)
      obtain ⟨more, hmore⟩ : ∃ l, fewOps l3 = l := ⟨_, rfl⟩
      have hlenm := fewOps_len l3
      rw [hmore] at HO3 HFW3 hlenm
      clear hmore n4 HSR HC4 N3 N4
      go_upto_region 16 with (first | (go_at_call 24; refine HFW3.out.mono ?_; rintro e w20 ⟨v20, rfl, hr20, hb20⟩; obtain ⟨A20, c20, rfl⟩ := Kd.R_slice hr20; have HR20 := Lib.hid hr20; have HB20 := Lib.hid hb20; clear hr20 hb20))
      have HTWQ := Lib.hid (HTW8.out.below HBZ.out)
      have HF20 := Lib.hid ((Fr.of_below (own := both own2 ownr) HBZ.out).trans (Fr.of_below HB20.out))
      have HKM := Lib.hid (fun (own' : Own) (W : World) (hf : Fr (both own2 ownr) own' w20 W) => R_keep HR20.out HTWQ.out.above hf)
      have HTW20 := Lib.hid (HTWQ.out.below HB20.out)
      clear n3
      go_wp2_with fail
      go_loopw [11] (fun v11 wr => ∃ (j : Nat) (r' : Dk) (ownr' : Own) (blkr' : Nat → Nat), j ≤ more.length ∧ v11 = .int .i64 j ∧ On r' (BR + j * 4100) ∧ Two wr kd kr d r' own2 ownr' blk2 blkr' ∧ Fr (both own2 ownr) (both own2 ownr') w20 wr) (fun v11 _ => more.length - (RowKit.intOf v11).toNat)
      case atStart => exact ⟨0, loadDk 67108864 CR, ownr, blkr, Nat.zero_le _, rfl, HONR.out.mono (by omega), HTW20.out, Fr.refl _ _⟩
      case round =>
        obtain ⟨j, r', ownr', blkr', hj, rfl, hro, htw, hfj⟩ := hrel
        have HRO := Lib.hid hro
        have HTW := Lib.hid htw
        have HFJ := Lib.hid hfj
        clear hro htw hfj
        have hjB : BR + j * 4100 ≤ 1000000000 := by omega
        by_cases hjt : j < more.length
        · have qi0 : (0 : Int) ≤ (j : Int) := by omega
          have qi1 : (j : Int) < (more.length : Int) := by omega
          obtain ⟨ad, A5, c5, A9, c9, hA6, g0, g1, g2, g3, g4, g5, g6, g7, g8, g9, l5, C5, l9, C9⟩ := op_at (Kd.R_reads' (HKM.out _ wr HFJ.out)).2.2 j hjt
          obtain ⟨hook, hk16, hlen5⟩ := HO3.out more[j] (List.getElem_mem hjt)
          obtain ⟨o, ho⟩ : ∃ o, more[j] = o := ⟨_, rfl⟩
          rw [ho] at g0 g1 g2 g3 g4 g5 g6 g7 g8 g9 l5 C5 l9 C9 hook hk16 hlen5
          subst hA6
          obtain ⟨hb0r, hown2, _⟩ := HAT8.out _ wr (HF20.out.trans HFJ.out)
          have HPL := Lib.hid (play_op ownr' wr kr blkr' r' HTW.out.rb HRO.out.inv.ok _ HRO.out.bd hjB o hook A5 c5 A9 c9 (Out.of_in C5 hb0r hown2).both.2 hk16)
          have hnext : On (r'.play (opOf o)).1 (BR + (j + 1) * 4100) := (HRO.out.play (opOf o)).mono (by
            have h9 : (opOf o).b.length = o.f5.length := toBy_len o.f5
            omega)
          have HNX := Lib.hid hnext
          have HJ1 := Lib.hid (show j + 1 ≤ more.length by omega)
          unfold opV ptr at HPL
          clear ho C5 C9 hook hk16 l9 l5 hb0r hown2 hjB hlen5 hnext hBRb
          go_wp2_with (first | (go_at_call 26; refine HPL.out.mono ?_; rintro e w21 ⟨rfl, hleft⟩; obtain ⟨own3, blk3, htw3, hfr3⟩ := HTW.out.right hleft; have HTW3 := Lib.hid htw3; have HFR3 := Lib.hid hfr3; clear hleft htw3 hfr3))
          go_roundw
          case rel => exact ⟨j + 1, _, own3, blk3, HJ1.out, by go_num, HNX.out, HTW3.out, HFJ.out.trans HFR3.out⟩
          case measure => simp [RowKit.intOf]; omega
        · have qi1 : ¬ (j : Int) < (more.length : Int) := by omega
          obtain ⟨wz, hwz⟩ : ∃ wz : World, wz = wr := ⟨_, rfl⟩
          subst hwz
          have HFZ := Lib.hid (HF20.out.trans HFJ.out)
          have hiB : (i + 1) * 4100 ≤ 1000000000 := by omega
          clear hjB hjt hj hBRb hlenm
          go_upto_region 20 with (fail)
          clear qi1
          have HSD := Lib.hid (fun W (hb : Below wz.heap.size wz W) => show Calls Try.prog 25 #[.pointer (some ⟨kd, 0, none⟩)] W (Rows I W) from seen_on (HTW.out.below hb).ra HON.out hiB HIE.out)
          have HCD := Lib.hid (fun W (hb : Below wz.heap.size wz W) => show Calls Try.prog 21 #[.pointer (some ⟨kd, 0, none⟩), .slice A2 l2.length c2] W (Rows CR W) from rows_of HCRE.out (HCR.out own2 W kd blk2 d (HTW.out.below hb).ra _ HON.out hiB (HAT8.out _ W (HFZ.out.trans (Fr.of_below hb))).1))
          have HIMI := Lib.hid (fun W A B c c' (ra : Kd.C k28 W A I.length (I.map encF) ∧ I.length ≤ c) (rb : Kd.C k28 W B I.length (I.map encF) ∧ I.length ≤ c') => show Calls Try.prog 20 #[.slice A I.length c, .slice B I.length c'] W (fun e w' => e = .returned (.bool true) ∧ Below W.heap.size W w') from image_same I A B c c' W ra rb (Nat.le_trans HI64.out (by omega)) HIL.out)
          have HBY := Lib.hid (Below.refl wz.heap.size wz)
          have N2 := Lib.hid (fun W (hb : Below wz.heap.size wz W) => (by
            have h9 := blk_cell (HAT8.out _ W (HFZ.out.trans (Fr.of_below hb))).2.2 2
            simp at h9
            exact h9 : W.cell? ⟨H0, 2, none⟩ = some (.slice A2 l2.length c2)))
          go_wp2_with (first | (go_at_call 25; refine (HSD.out _ HBY.out).mono ?_; rintro e wx ⟨Ax, cx, rfl, hrow, hbx⟩; have HRX := Lib.hid hrow; have HBY := Lib.hid (HBY.out.trans (hbx.mono HBY.out.size)); clear hrow hbx))
          refine (HIMI.out _ _ _ _ _ HRX.out (HWAS.out _ _ (HFZ.out.trans (Fr.of_below HBY.out)))).mono ?_
          rintro e wy ⟨rfl, hby⟩
          have HBY := Lib.hid (HBY.out.trans (hby.mono HBY.out.size))
          have n2 := N2.out _ HBY.out
          clear hby
          go_wp2_with (first | (go_at_call 21; refine (HCD.out _ HBY.out).mono ?_; rintro e wx ⟨Ax, cx, rfl, hrow, hbx⟩; have HRX := Lib.hid hrow; have HBY := Lib.hid (HBY.out.trans (hbx.mono HBY.out.size)); clear hrow hbx))
          refine (HIMG.out _ _ _ _ _ HRX.out (HLL.out _ _ (HFZ.out.trans (Fr.of_below HBY.out)))).mono ?_
          rintro e wy ⟨rfl, hby⟩
          have HBY := Lib.hid (HBY.out.trans (hby.mono HBY.out.size))
          clear hby n2 hib hlen
          by_cases hz : ops.length = 0
          · have hI1 := HONE.out hz
            go_wp2_with fail
            go_ret
            exact ⟨by simp [hz, hI1], (HAT8.out _ _ (HFZ.out.trans (Fr.of_below HBY.out))).1⟩
          · have hp : 0 < ops.length := by omega
            go_wp2_with fail
            go_ret
            exact ⟨by simp [hp], (HAT8.out _ _ (HFZ.out.trans (Fr.of_below HBY.out))).1⟩
end Go.Proofs.Ytonecajkfbdnmaa.Dk

namespace Go.Proofs.Ytonecajkfbdnmaa.Agr
set_option linter.unusedVariables false
open Go.ChangeShapes Go.WideShapes Go.ChangeAt Go.RowKit Go.Lib Go.Deep Go.Proofs.Ytonecajkfbdnmaa.Dk Go.Proofs.Ytonecajkfbdnmaa.Dw
open Go.Proofs.YtonecajkfbdnmaaW.PrintWords

theorem own : ownKnob Try.prog.godebug = none := by kernel_rfl
set_option maxRecDepth 100000 in
theorem contract (H : Type) (enc : TypeId × Value → H) (W : World) (base : Nat) (args : Array Value) (ds gs : List (DataW H)) (before : List MemPlace)
    (hval : ∀ (j : Nat) t v, Try.f8.params[j]? = some t → args[j]? = some v → Value.okWide Try.prog W .any base t v)
    (hW : DataW.Whole enc Try.prog Try.f8.params.toList Rows.diskAgainSpec.vars false W args.toList ds gs before)
    (hz : (DataW.weightsEach Try.prog (Try.f8.params.toList ++ (OpenSpec.ofChange Rows.diskAgainSpec).bare.plain.varTypes Try.prog) (ds ++ gs)).all (· ≤ reachBytes) = true) :
    Calls Try.prog 8 args W fun e W' => ∃ v, e = .returned v ∧ Rows.diskAgainSpec.post enc Try.prog Try.f8 false true false false W args v W' := by
  have hW' := hW
  have hlt := hW.lt
  obtain ⟨p, q, hA0, hV, rfl, hfz, hnd⟩ := hW
  have hA : DataW.TrodAll enc Try.prog W 0 (fun _ => true) true Try.f8.params.toList args.toList ds p := hA0
  rw [Try.params8] at hA hval hz
  obtain ⟨v0, d0, rfl, rfl, h0⟩ := trodAll_one hA
  obtain ⟨rfl, rfl⟩ := trodVars_none hV
  have hok := hval 0 65 v0 rfl rfl
  clear hA0 hval
  simp only [List.append_nil] at hW' hlt
  have fin : ∀ W', Below W.heap.size W W' → Rows.diskAgainSpec.post enc Try.prog Try.f8 false true false false W #[v0] (.bool true) W' := fun W' bel =>
    ⟨_, _, _, [], _, [], hW', trodAll_mk1 (shut_bool Try.underlying4 _), trodAll_mk1 (Below.trod (by kernel_rfl) (by kernel_rfl) (of_decide_eq_true (by kernel_rfl)) h0 bel hlt), rfl, bel.frame _, fun h => by cases h⟩
  have hwt : ∀ k ∈ d0.weights Try.prog 65, k ≤ reachBytes := fun k hk => by
    have := List.all_eq_true.1 hz k (DataW.weights_mem_each (j := 0) (t := 65) (d := d0) rfl rfl k hk)
    exact of_decide_eq_true this
  have hbig : reachBytes ≤ big := by have := reachBytes_lt; unfold big; omega
  have hR := reachBytes_lt
  obtain ⟨A1, c1, l1, off, A2, c2, l2, A3, c3, l3, A4, c4, l4, hp⟩ := open_power reachBytes hbig hok h0 hwt
  have n1 := hp.n1
  have n3 := hp.n3
  obtain rfl := hp.v
  have walk := diskAgain_walk W A1 c1 l1 off A2 c2 l2 A3 c3 l3 A4 c4 l4 hp.C1 (by omega) hp.o1 hp.C2 hp.c2 hp.p2 hp.C3 (by omega) hp.o3 hp.C4 hp.c4 hp.p4
  refine walk.mono fun e W' ⟨he, bel⟩ => ?_
  subst he
  exact ⟨_, rfl, fin W' bel⟩
theorem witness_row (os : Os) {H : Type} (enc : TypeId × Value → H) :
    (OpenSpec.ofChange Rows.diskAgainSpec).preRow enc Try.prog Try.f8 Rows.diskAgainRow.domain false Rows.diskAgainRow.laid ((World.settled Try.prog os).forCall (fun _ _ => 0) ⟨#[], #[.agg #[.slice none 0 0, .int .i64 0, .slice none 0 0, .slice none 0 0, .slice none 0 0]], []⟩).memory #[.agg #[.slice none 0 0, .int .i64 0, .slice none 0 0, .slice none 0 0, .slice none 0 0]] := by
  have hw : (DataW.whole enc Try.prog ((World.settled Try.prog os).forCall (fun _ _ => 0) ⟨#[], #[.agg #[.slice none 0 0, .int .i64 0, .slice none 0 0, .slice none 0 0, .slice none 0 0]], []⟩).memory Try.f8.params.toList Rows.diskAgainSpec.vars false #[Value.agg #[.slice none 0 0, .int .i64 0, .slice none 0 0, .slice none 0 0, .slice none 0 0]].toList 8).map (fun x => (x.1, x.2.1)) =
      some ([.agg [.nil, .lit (.int .i64 0), .nil, .nil, .nil]], []) := by kernel_rfl
  obtain ⟨⟨x1, x2, x3⟩, hx, hx1⟩ := Option.map_eq_some_iff.1 hw
  simp only [Prod.mk.injEq] at hx1
  obtain ⟨rfl, rfl⟩ := hx1
  exact OpenSpec.preRow_of_cond 8 hx (by kernel_rfl) (fun k hk => by cases hk) (by kernel_rfl) (laidMet_nil _ _)
set_option maxRecDepth 100000 in
set_option maxHeartbeats 2000000 in
theorem lifted (os : Os) (started : os.Started) (H : Type) (enc : TypeId × Value → H) (F : Stop.Interp) :
    ReturnsInHanded {} Try.checked os 8 .any ((OpenSpec.ofChange Rows.diskAgainSpec).preRow enc Try.prog Try.f8 Rows.diskAgainRow.domain false Rows.diskAgainRow.laid) (((OpenSpec.ofChange Rows.diskAgainSpec).at F).post enc Try.prog Try.f8 false true false false) := by
  refine returnsInHanded_of_row (C := Try.checked) (s := OpenSpec.ofChange Rows.diskAgainSpec) own started (by kernel_rfl) Try.func8
    (witness_row_at (enc := enc) (C := Try.checked) false (World.settled Try.prog os) #[.agg #[.slice none 0 0, .int .i64 0, .slice none 0 0, .slice none 0 0, .slice none 0 0]] rfl (by kernel_rfl) (by kernel_rfl) (by kernel_rfl) (witness_row os enc)) ?_
  intro W base args ds gs before hval hW _ _ hz _ _ _
  exact contract H enc W base args ds gs before hval hW hz
theorem said : Rows.DiskAgainSaid :=
  OpenClaim.holds_of_cond 8 Try.f8 rfl rfl rfl rfl rfl rfl rfl ⟨rfl, rfl, rfl, rfl, rfl⟩ rfl rfl rfl rfl rfl (by kernel_rfl) Try.func8 (by kernel_rfl)
    (of_decide_eq_true (by kernel_rfl)) (by unfold Func.isWrapper; first | (rw [if_pos (by decide +kernel)]; kernel_rfl) | (rw [if_neg (by decide +kernel)]; exact ⟨rfl, rfl⟩))
    (fun os started H enc _ F => by rw [OpenClaim.pre_eq_preRow]; exact lifted os started H enc F)
end Go.Proofs.Ytonecajkfbdnmaa.Agr
namespace Go.Proofs.Ytonecajkfbdnmaa
theorem diskAgain_holds : Rows.DiskAgainSaid := Agr.said
#print axioms diskAgain_holds
end Go.Proofs.Ytonecajkfbdnmaa
