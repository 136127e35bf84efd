/- The walk of the law DiskRoom. -/
import Derived.Test.YtonecajkfbdnmaaEg
import Derived.Test.YtonecajkfbdnmaaRows
import Derived.Lib.SmallJoins
import Derived.Deep.Slices
import Derived.Deep.Strs
import Derived.Deep.DeepHandedRow
import Derived.Deep.DeepWitnessRowRef
import Derived.ProofKit
import Derived.SizedLaws
import Derived.OpenShut
import Derived.Carry
namespace Go.Proofs.Ytonecajkfbdnmaa.Dk
open Go.Lib Go.RowKit Go.ChangeMaps Go.Proofs.Ytonecajkfbdnmaa.Mp Go.Proofs.YtonecajkfbdnmaaW.PrintWords Go.Proofs.YtonecajkfbdnmaaW.PrintLast Go.Proofs.YtonecajkfbdnmaaW.PrintMore Go.Proofs.Ytonecajkfbdnmaa.PDiskRoom
set_option linter.unusedVariables false
set_option linter.unusedSimpArgs false

def withinI (n m : Int) : Int := Int.tmod (wrap64 (Int.tmod n m + m)) m
theorem within_walk (n m : Int) (w : World) (hm : 0 < m) (hm2 : m ≤ 1000000000) : Calls Try.prog 22 #[.int .i64 n, .int .i64 m] w fun e w' => e = .returned (.int .i64 (withinI n m)) ∧ ∃ q, w' = w.drewN q := by
  refine (satchellaw11_within.calls n m (withinI n m) w (by unfold satchellaw11_within.f; rw [if_neg (by omega)]; rfl)).mono ?_
  rintro e w' ⟨h, q, hq⟩
  exact ⟨h, q, hq⟩
theorem tmod_bd (n m : Int) (hm : 0 < m) : -m < Int.tmod n m ∧ Int.tmod n m < m := by
  rcases Int.le_total 0 n with h | h
  · have h1 := Int.tmod_lt_of_pos n hm
    have h2 := Int.tmod_nonneg m h
    omega
  · have e : Int.tmod n m = - Int.tmod (-n) m := by rw [Int.neg_tmod]; omega
    have h1 := Int.tmod_lt_of_pos (-n) hm
    have h2 := Int.tmod_nonneg m (show 0 ≤ -n by omega)
    omega
theorem within_bd (n m : Int) (hm : 0 < m) (hm2 : m ≤ 1000000000) : 0 ≤ withinI n m ∧ withinI n m < m := by
  unfold withinI
  have h := tmod_bd n m hm
  have e : wrap64 (Int.tmod n m + m) = Int.tmod n m + m := by unfold wrap64; omega
  rw [e]
  have h2 := Int.tmod_nonneg m (show 0 ≤ Int.tmod n m + m by omega)
  have h3 := Int.tmod_lt_of_pos (Int.tmod n m + m) hm
  exact ⟨h2, h3⟩
theorem Out.of_in {own : Own} {w0 w : World} {A : Option Addr} {xs : List Int} (hC : Kd.C kB w0 A xs.length xs) (hb : Below w0.heap.size w0 w) (ho : ∀ k, k < w0.heap.size → own k = none) : Out own w A xs := by
  refine ⟨Kd.C_below hC hb, fun ad e hn => ?_⟩
  obtain ⟨ad', e', hc⟩ := C_cells hC hn
  rw [e] at e'
  obtain rfl := Option.some.inj e'
  have := World.block_lt_of_cell? w0 _ (hc 0 _ (by rw [List.getElem?_map, List.getElem?_eq_getElem hn]; rfl))
  have hb : (ad.add 0).block = ad.block := by unfold Addr.add; split <;> rfl
  rw [hb] at this
  exact ho _ this
theorem OpOk.few {o : S58} (h : OpOk o) : OpOk (fewM o) := by
  refine ⟨?_, ?_, h.name, h.to_, h.n⟩
  · show ints (toBy (o.f5.take 4096)) = o.f5.take 4096
    have e : ints (toBy (o.f5.take 4096)) = (ints (toBy o.f5)).take 4096 := by unfold ints toBy; rw [List.map_take, List.map_take]
    rw [e, h.bytes]
  · show (o.f5.take 4096).length ≤ _
    have := h.len
    have := List.length_take_le' 4096 o.f5
    omega
theorem fewOps_mem {l : List S58} {o : S58} (h : o ∈ fewOps l) : (1 ≤ o.f0 ∧ o.f0 ≤ 6) ∧ o.f5.length ≤ 4096 ∧ ∃ p ∈ l, o = fewM p := by
  unfold fewOps fewI at h
  obtain ⟨p, hp, rfl⟩ := List.mem_map.1 h
  obtain ⟨hp1, hp2⟩ := List.mem_filter.1 hp
  unfold fewB at hp2
  simp at hp2
  exact ⟨hp2, by show (p.f5.take 4096).length ≤ _; exact List.length_take_le _ _, p, List.mem_of_mem_take hp1, rfl⟩
theorem fewOps_len (l : List S58) : (fewOps l).length ≤ 200 := fewI_le l 200
/-- A step at its cells. -/
theorem op_at {w0 w : World} {A : Option Addr} {xs : List S58} (h : Kd.C (kO w0) w A xs.length xs) (i : Nat) (hi : i < xs.length) : ∃ ad A5 c5 A9 c9, A = some ad ∧ w.cell? (ad.add (i * 10)) = some (.int .i64 xs[i].f0) ∧
    w.cell? ⟨(ad.add (i * 10)).block, (ad.add (i * 10)).off + 1, none⟩ = some (.int .i64 xs[i].f1) ∧ w.cell? ⟨(ad.add (i * 10)).block, (ad.add (i * 10)).off + 2, none⟩ = some (.int .i64 xs[i].f2) ∧
    w.cell? ⟨(ad.add (i * 10)).block, (ad.add (i * 10)).off + 3, none⟩ = some (.string xs[i].f3) ∧ w.cell? ⟨(ad.add (i * 10)).block, (ad.add (i * 10)).off + 4, none⟩ = some (.string xs[i].f4) ∧
    w.cell? ⟨(ad.add (i * 10)).block, (ad.add (i * 10)).off + 5, none⟩ = some (.slice A5 xs[i].f5.length c5) ∧ w.cell? ⟨(ad.add (i * 10)).block, (ad.add (i * 10)).off + 6, none⟩ = some (.int .i64 xs[i].f6.f0) ∧
    w.cell? ⟨(ad.add (i * 10)).block, (ad.add (i * 10)).off + 7, none⟩ = some (.int .i64 xs[i].f6.f1) ∧ w.cell? ⟨(ad.add (i * 10)).block, (ad.add (i * 10)).off + 8, none⟩ = some (.int .i64 xs[i].f6.f2) ∧
    w.cell? ⟨(ad.add (i * 10)).block, (ad.add (i * 10)).off + 9, none⟩ = some (.slice A9 xs[i].f7.length c9) ∧ xs[i].f5.length ≤ c5 ∧ Kd.C kB w0 A5 xs[i].f5.length xs[i].f5 ∧ xs[i].f7.length ≤ c9 ∧ Kd.C (Kd.int .i64) w0 A9 xs[i].f7.length xs[i].f7 := by
  obtain ⟨ad, c, e, _, hK, hc0⟩ := Kd.C_get h z58 (i : Int) (by omega) (by omega)
  have hc : ∀ j u, c[j]? = some u → w.cell? (ad.add (i * 10 + j)) = some u := hc0
  rw [Int.toNat_natCast, List.getD_eq_getElem?_getD, List.getElem?_eq_getElem hi] at hK
  obtain ⟨A5, c5, A9, c9, rfl, l5, g5, l9, g9⟩ := k58_open (w := w0) hK
  exact ⟨ad, A5, c5, A9, c9, e, hc 0 _ rfl, by rw [← add_field _ _ 1 (by omega)]; exact hc 1 _ rfl, by rw [← add_field _ _ 2 (by omega)]; exact hc 2 _ rfl, by rw [← add_field _ _ 3 (by omega)]; exact hc 3 _ rfl, by rw [← add_field _ _ 4 (by omega)]; exact hc 4 _ rfl, by rw [← add_field _ _ 5 (by omega)]; exact hc 5 _ rfl, by rw [← add_field _ _ 6 (by omega)]; exact hc 6 _ rfl, by rw [← add_field _ _ 7 (by omega)]; exact hc 7 _ rfl, by rw [← add_field _ _ 8 (by omega)]; exact hc 8 _ rfl, by rw [← add_field _ _ 9 (by omega)]; exact hc 9 _ rfl, l5, g5, l9, g9⟩
/-- The bytes of the first k files. -/
def sumI (I : Img) (k : Nat) : Nat := ((I.take k).map (fun x => x.2.length)).sum
theorem sumI_succ (I : Img) (k : Nat) (hk : k < I.length) : sumI I (k + 1) = sumI I k + I[k].2.length := by
  unfold sumI
  rw [List.take_succ_eq_append_getElem hk, List.map_append, List.sum_append_nat]; simp
theorem sumI_le (I : Img) (k : Nat) : sumI I k ≤ (I.map (fun x => x.2.length)).sum := by
  unfold sumI
  have h := List.take_append_drop k I
  have : (I.map (fun x => x.2.length)).sum = ((I.take k).map (fun x => x.2.length)).sum + ((I.drop k).map (fun x => x.2.length)).sum := by
    rw [← List.sum_append_nat, ← List.map_append, h]
  omega
theorem R_img {w : World} {base : Nat} {ok : Nat → Prop} {A : Option Addr} {c : Nat} {a : Img} (h : Kd.R k28 28 w base ok (.slice A a.length c) (a.map encF)) : Kd.C k28 w A a.length (a.map encF) ∧ a.length ≤ c := by
  have h1 : (a.map encF).length = a.length := List.length_map ..
  rw [← h1] at h ⊢
  exact ⟨(Kd.R_reads' h).2.2, (Kd.R_reads' h).2.1⟩
theorem ints_append (a b : By) : ints (a ++ b) = ints a ++ ints b := by unfold ints; rw [List.map_append]
theorem R_sliceI {w : World} {base : Nat} {ok : Nat → Prop} {v : Value} {s : By} (h : Kd.R kB 5 w base ok v (ints s)) : ∃ A c, v = .slice A s.length c ∧ s.length ≤ c ∧ Kd.C kB w A s.length (ints s) := by
  obtain ⟨A, c, rfl, h1, h2⟩ := Kd.R_reads h
  rw [ints_length] at h1 h2 ⊢
  exact ⟨A, c, rfl, h1, h2⟩
theorem image_same (a : Img) (A B : Option Addr) (ca cb : Nat) (w : World) (hA : Kd.C k28 w A a.length (a.map encF) ∧ a.length ≤ ca) (hB : Kd.C k28 w B a.length (a.map encF) ∧ a.length ≤ cb) (hl : a.length ≤ 1000000000) (hM : ∀ x ∈ a, x.2.length ≤ 1000000000) :
    Calls Try.prog 20 #[.slice A a.length ca, .slice B a.length cb] w fun e w' => e = .returned (.bool true) ∧ Below w.heap.size w w' :=
  (image_walk a a A B ca cb w hA.1 hA.2 hB.1 hB.2 hl hM).mono (fun e w' ⟨h1, m, h2⟩ => ⟨by rw [h1]; simp, h2 ▸ below_drewN' w m⟩)
/-- What the law's loop keeps. -/
structure RoomI (d : Dk) (room : Nat) (i : Nat) : Prop where
  inv : d.Inv
  bd : Bd d (i * 4100)
  off : d.off = false
  po : d.plan.off ≤ 0
  pf : d.plan.from_ ≤ 0
  room : d.room = room
theorem RoomI.play {d : Dk} {room i : Nat} (h : RoomI d room i) (o : POp) (hb : o.b.length ≤ 4096) : RoomI (d.play o).1 room (i + 1) := by
  have hc := play_calm d o
  exact ⟨play_inv h.inv o, (play_bd h.inv h.bd o).mono (by omega), hc.off h.off h.po, by rw [hc.plan]; exact h.po, by rw [hc.plan]; exact h.pf, by rw [hc.room]; exact h.room⟩
theorem toBy_len (l : List Int) : (toBy l).length = l.length := by simp [toBy]
set_option maxRecDepth 100000 in
set_option maxHeartbeats 8000000 in
theorem diskRoom_walk (w0 : World) (r : Int) (A : Option Addr) (c : Nat) (l : List S58) (hC : Kd.C k58 w0 A l.length l) (hl : l.length ≤ 1000000000000) (hops : ∀ o ∈ l, OpOk o) :
    Calls Try.prog 4 #[.agg #[.int .i64 r, .slice A l.length c]] w0 fun e w' => e = .returned (.bool true) ∧ Below w0.heap.size w0 w' := by
  obtain ⟨hw1, hw2⟩ := within_bd r 400 (by omega) (by omega)
  obtain ⟨room, hroom⟩ : ∃ room : Nat, withinI r 400 = (room : Int) := ⟨(withinI r 400).toNat, by omega⟩
  have HW := Lib.hid (fun w => within_walk r 400 w (by omega) (by omega))
  rw [hroom] at HW hw2
  have hr400 : room < 400 := by omega
  have HNEW := Lib.hid (fun w => new_walk room (by omega) w)
  have HFEW := Lib.hid (fun w (hb : Below w0.heap.size w0 w) => few_walk w0 w hb A c l hC hl)
  have HOPS := Lib.hid hops
  have HN := Lib.hid (fun r w => num_walk r w)
  clear hC hops hw1 hw2 hroom
  go_enter Try.func4, Try.ntmps4
  go_upto_region 1 with (fail)
  obtain ⟨wb, hwb⟩ : ∃ wb, w0.alloc (.cells #[.int .i64 r, .slice A l.length c] 50) = wb := ⟨_, rfl⟩
  obtain ⟨H0, hH0⟩ : ∃ H, w0.heap.size = H := ⟨_, rfl⟩
  have hbb : Below w0.heap.size w0 wb := hwb ▸ below_alloc (Below.refl _ _) _
  have hnb : wb.heap[H0]? = some (.cells #[.int .i64 r, .slice A l.length c] 50 (0, 0)) := by rw [← hwb, ← hH0]; exact blk_new w0 _
  have hszb : H0 < wb.heap.size := by rw [← hwb, ← hH0]; simp
  rw [hwb, hH0]
  have n0 := blk_cell hnb 0
  have n1 := blk_cell hnb 1
  simp at n0 n1
  have HBB := Lib.hid hbb
  have HH0 := Lib.hid hH0
  clear hwb hbb hnb hH0
  go_wp2_with fail
  refine (HW.out _).mono ?_
  rintro e w1 ⟨rfl, q1, hw1⟩
  have hb1 : Below wb.heap.size wb w1 := hw1 ▸ below_drewN' wb q1
  have HB1 := Lib.hid hb1
  have n1a := pw_cell_below hb1 n1
  clear hw1 hb1 n0 n1
  go_wp2_with fail
  refine (HNEW.out _).mono ?_
  rintro e w2 ⟨kd, own, blk, rfl, hr2, hb2, hn2⟩
  have HR2 := Lib.hid hr2
  have HB2 := Lib.hid hb2
  have HN2 := Lib.hid hn2
  have n1b := pw_cell_below hb2 n1a
  have HRM := Lib.hid (room_walk hr2)
  rw [show (Dk.new room).room = room from rfl] at HRM
  clear hr2 hb2 hn2 n1a
  unfold ptr
  unfold ptr at HRM
  go_wp2_with fail
  refine (HN.out _ _).mono ?_
  rintro e w2 ⟨rfl, rfl⟩
  go_wp2_with fail
  refine HRM.out.mono ?_
  rintro e w2 ⟨rfl, rfl⟩
  have hb02 : Below w0.heap.size w0 w2 := HBB.out.trans ((HB1.out.mono HBB.out.size).trans (HB2.out.mono (Nat.le_trans HBB.out.size HB1.out.size)))
  have HF := Lib.hid (HFEW.out w2 hb02)
  have HB02 := Lib.hid hb02
  clear hb02
  go_wp2_with fail
  refine HF.out.mono ?_
  rintro e w3 ⟨v6, rfl, hr3, hb3⟩
  obtain ⟨A6, c6, rfl⟩ := Kd.R_slice hr3
  have HR3 := Lib.hid hr3
  have HB3 := Lib.hid hb3
  obtain ⟨ops, hops⟩ : ∃ ops, fewOps l = ops := ⟨_, rfl⟩
  rw [hops] at HR3 ⊢
  have hlen := fewOps_len l
  rw [hops] at hlen
  have HOP := Lib.hid hops
  have HRP := Lib.hid (HR2.out.below hb3)
  have hown0 : ∀ k, k < w0.heap.size → own k = none := fun k hk => by
    cases e : own k with
    | none => rfl
    | some x => have h9 := HN2.out k x e; have h8 := HBB.out.size; have h7 := HB1.out.size; omega
  have hkeep : ∀ (own' : Own) (W : World), Fr own own' w3 W → Kd.R (kO w0) 58 W w2.heap.size (fun k => w2.heap.size ≤ k) (.slice A6 ops.length c6) ops := fun own' W hf => Kd.R_step HR3.out (fun k hk hlt => hf.block k hlt (by
    cases e : own k with
    | none => rfl
    | some x => have h9 := HR2.out.lt k x e; omega))
  have hb03 : Below w0.heap.size w0 w3 := HB02.out.trans (hb3.mono HB02.out.size)
  have HOWN0 := Lib.hid hown0
  have HKEEP := Lib.hid hkeep
  have HB03 := Lib.hid hb03
  clear hr3 hb3 hops n1b hown0 hkeep hb03
  go_wp2_with fail
  go_loopw [7] (fun v7 wr => ∃ (i : Nat) (d : Dk) (own1 : Own) (blk1 : Nat → Nat), i ≤ ops.length ∧ v7 = .int .i64 i ∧ RoomI d room i ∧ Rep own1 wr kd blk1 d ∧ Fr own own1 w3 wr) (fun v7 _ => ops.length - (RowKit.intOf v7).toNat)
  case atStart => exact ⟨0, Dk.new room, own, blk, Nat.zero_le _, rfl, ⟨new_inv room (by omega), (new_bd room (by omega)).mono (by omega), rfl, Int.le_refl _, Int.le_refl _, rfl⟩, HRP.out, Fr.refl _ _⟩
  case round =>
    obtain ⟨i, d, own1, blk1, hi, rfl, hI, hr, hf⟩ := hrel
    have HI := Lib.hid hI
    have HR := Lib.hid hr
    have HFI := Lib.hid hf
    clear hI hr hf
    by_cases hlt : i < ops.length
    · have qi0 : (0 : Int) ≤ (i : Int) := by omega
      have qi1 : (i : Int) < (ops.length : Int) := by omega
      have HSN := Lib.hid (seen_walk own1 wr kd blk1 d HR.out HI.out.inv.ok HI.out.inv.fa _ HI.out.bd (by omega) HI.out.off)
      unfold ptr at HSN
      go_wp2_with (first | (go_at_call 25; refine HSN.out.mono ?_; rintro e w4 ⟨v8, rfl, hr4, hb4⟩; obtain ⟨A8, c8, rfl⟩ := Kd.R_slice hr4; have HR4 := Lib.hid hr4; have HB4 := Lib.hid hb4; clear hr4 hb4))
      obtain ⟨I, hI⟩ : ∃ I, d.image = I := ⟨_, rfl⟩
      rw [hI] at HR4 ⊢
      have hus : (I.map (fun x => x.2.length)).sum = d.used := by rw [← hI]; exact image_used d
      have hur : d.used ≤ room := by have := HI.out.inv.ok.room; rw [HI.out.room] at this; exact this
      have hI64 : I.length ≤ 64 := by rw [← hI]; unfold Dk.image; rw [List.length_map]; exact HI.out.inv.ok.few
      have hil : ∀ x ∈ I, x.2.length ≤ 1000000000 := fun x hx => by
        rw [← hI] at hx
        unfold Dk.image at hx
        obtain ⟨y, hy, rfl⟩ := List.mem_map.1 hx
        have h9 := HI.out.bd.seen y.2 (HI.out.inv.ok.lt y hy)
        show (d.file y.2).seen.length ≤ _
        omega
      have HIL := Lib.hid hil
      clear hil
      have HIM := Lib.hid hI
      have HC8 := Lib.hid (Kd.R_reads' HR4.out).2.2
      have HUS := Lib.hid hus
      have hu0 : (0 : Int) ≤ (d.used : Int) := by omega
      clear hI hus
      go_loop [9, 10] (fun v9 v10 => ∃ k : Nat, k ≤ I.length ∧ v10 = .int .i64 k ∧ v9 = .int .i64 (sumI I k : Int)) (fun _ v10 => I.length - (RowKit.intOf v10).toNat)
      case atStart => exact ⟨0, Nat.zero_le _, rfl, by simp [sumI]⟩
      case round =>
        obtain ⟨k, hk, rfl, rfl⟩ := hrel
        have hsk := sumI_le I k
        rw [HUS.out] at hsk
        obtain ⟨S, hS⟩ : ∃ S, sumI I k = S := ⟨_, rfl⟩
        rw [hS] at hsk ⊢
        have HS := Lib.hid hS
        by_cases hkl : k < I.length
        · obtain ⟨ad, A1, c1, hA8, g0, g1, g2, _⟩ := img_at (by have h9 := HC8.out; rw [List.length_map] at h9; exact h9) k hkl
          have hs1 := sumI_succ I k hkl
          have hs2 := sumI_le I (k + 1)
          rw [HUS.out] at hs2
          obtain ⟨L, hL⟩ : ∃ L, I[k].2.length = L := ⟨_, rfl⟩
          rw [hL, hS] at hs1
          rw [hL] at g1
          have HS1 := Lib.hid hs1
          have hSL : S + L ≤ d.used := by omega
          subst hA8
          have qk0 : (0 : Int) ≤ (k : Int) := by omega
          have qk1 : (k : Int) < (I.length : Int) := by omega
          clear hS hs1 hs2 hL g0 g2
          go_wp2_with fail
          go_round
          case rel => exact ⟨k + 1, by omega, by go_num, by rw [HS1.out]; go_num⟩
          case measure => simp [RowKit.intOf]; omega
        · have hkl2 : k = I.length := by omega
          have hSU : S = d.used := by
            rw [← hS, ← HUS.out, hkl2]; unfold sumI; rw [List.take_length]
          subst hSU
          have hle : (d.used : Int) ≤ (room : Int) := by omega
          have qk1 : ¬ (k : Int) < (I.length : Int) := by omega
          clear hS
          have hF4 := HFI.out.trans (Fr.of_below (own := own1) HB4.out)
          obtain ⟨ad, A5, c5, A9, c9, hA6, g0, g1, g2, g3, g4, g5, g6, g7, g8, g9, l5, C5, l9, C9⟩ := op_at (Kd.R_reads' (HKEEP.out own1 w4 hF4)).2.2 i hlt
          have hmem := fewOps_mem (l := l) (o := ops[i]) (by rw [HOP.out]; exact List.getElem_mem hlt)
          obtain ⟨o, ho⟩ : ∃ o, ops[i] = o := ⟨_, rfl⟩
          rw [ho] at g0 g1 g2 g3 g4 g5 g6 g7 g8 g9 l5 C5 l9 C9 hmem
          obtain ⟨hk16, hlen5, p, hp, hop⟩ := hmem
          have hook : OpOk o := by rw [hop]; exact (HOPS.out p hp).few
          subst hA6
          have HC5 := Lib.hid C5
          have HOOK := Lib.hid hook
          have HK16 := Lib.hid hk16
          have hl5 : (o.f5.length : Int) ≤ 4096 := by omega
          have HF4 := Lib.hid hF4
          clear ho C5 C9 hook hk16 hp hop hF4 l9 l5
          go_upto_region 18 with (fail)
          obtain ⟨w5, hw5⟩ : ∃ w5, w4.alloc (.cells #[.int .i64 o.f0, .int .i64 o.f1, .int .i64 o.f2, .string o.f3, .string o.f4, .slice A5 o.f5.length c5, .int .i64 o.f6.f0, .int .i64 o.f6.f1, .int .i64 o.f6.f2, .slice A9 o.f7.length c9] 58) = w5 := ⟨_, rfl⟩
          obtain ⟨kb, hkb⟩ : ∃ kb, w4.heap.size = kb := ⟨_, rfl⟩
          have hb5 : Below w4.heap.size w4 w5 := hw5 ▸ below_alloc (Below.refl _ _) _
          have hnb5 : w5.heap[kb]? = some (.cells #[.int .i64 o.f0, .int .i64 o.f1, .int .i64 o.f2, .string o.f3, .string o.f4, .slice A5 o.f5.length c5, .int .i64 o.f6.f0, .int .i64 o.f6.f1, .int .i64 o.f6.f2, .slice A9 o.f7.length c9] 58 (0, 0)) := by rw [← hw5, ← hkb]; exact blk_new w4 _
          rw [hw5, hkb]
          have n0 := blk_cell hnb5 0
          have n1 := blk_cell hnb5 1
          have n2 := blk_cell hnb5 2
          have n3 := blk_cell hnb5 3
          have n4 := blk_cell hnb5 4
          have n5 := blk_cell hnb5 5
          have n6 := blk_cell hnb5 6
          have n7 := blk_cell hnb5 7
          have n8 := blk_cell hnb5 8
          have n9 := blk_cell hnb5 9
          simp at n0 n1 n2 n3 n4 n5 n6 n7 n8 n9
          have hF5 := HF4.out.trans (Fr.of_below (own := own1) hb5)
          have hb05 : Below w0.heap.size w0 w5 := HB03.out.trans (hF5.below HB03.out.size HOWN0.out)
          have hown1 : ∀ k, k < w0.heap.size → own1 k = none := fun k hk => HFI.out.new k (Nat.lt_of_lt_of_le hk HB03.out.size) (HOWN0.out k hk)
          have hr5 := HR.out.below (HB4.out.trans (hb5.mono HB4.out.size))
          have HPL := Lib.hid (play_op own1 w5 kd blk1 d hr5 HI.out.inv.ok _ HI.out.bd (by omega) o HOOK.out A5 c5 A9 c9 (Out.of_in HC5.out hb05 hown1) HK16.out)
          unfold opV ptr at HPL
          have hkbo : ∀ k, wr.heap.size ≤ k → own1 k = none := fun k hk => by
            cases e : own1 k with
            | none => rfl
            | some x => have h9 := HR.out.lt k x e; omega
          have HKBO := Lib.hid hkbo
          have HF5 := Lib.hid hF5
          have HB5 := Lib.hid hb5
          have HNB5 := Lib.hid hnb5
          have HKB := Lib.hid hkb
          clear g0 g1 g2 g3 g4 g5 g6 g7 g8 g9 hw5 hkb hb5 hnb5 hF5 hb05 hown1 hr5 hkbo
          go_upto_region 19 with (first | (go_at_call 26; refine HPL.out.mono ?_; rintro e w6 ⟨rfl, own2, blk2, hr6, hf6⟩; have HR6 := Lib.hid hr6; have HF6 := Lib.hid hf6; clear hr6 hf6))
          have hI' := HI.out.play (opOf o) (by show (toBy o.f5).length ≤ 4096; rw [toBy_len]; omega)
          have hra := room_append HI.out.inv HI.out.pf HI.out.po o.f3 (toBy o.f5)
          rw [toBy_len, HI.out.room] at hra
          have hpl : o.f0 = 1 → d.play (opOf o) = d.append o.f3 (toBy o.f5) := fun e => by
            unfold Dk.play
            rw [show (opOf o).kind = 1 from e]; rfl
          obtain ⟨R, hR⟩ : ∃ R, d.play (opOf o) = R := ⟨_, rfl⟩
          rw [hR] at HR6 hI' hpl ⊢
          have hnb6 := (HF6.out.block kb (blk_lt HNB5.out) (HKBO.out kb (by rw [← HKB.out]; exact HB4.out.size))).trans HNB5.out
          have n0 := blk_cell hnb6 0
          have n3 := blk_cell hnb6 3
          have n5 := blk_cell hnb6 5
          simp at n0 n3 n5
          have hF6 := HF5.out.trans HF6.out
          have hw8 : Kd.R k28 28 w6 wr.heap.size (fun k => wr.heap.size ≤ k) (.slice A8 I.length c8) (I.map encF) := by
            have h9 := Kd.R_step (Kd.R_below HR4.out HB5.out) (w1 := w6) (fun k hk hlt => HF6.out.block k hlt (HKBO.out k hk))
            rw [List.length_map] at h9
            exact h9
          have HI' := Lib.hid hI'
          have HW8 := Lib.hid hw8
          have HF6' := Lib.hid hF6
          have HNB6 := Lib.hid hnb6
          clear hI' hw8 hF6 hnb6 hR
          by_cases hk1 : o.f0 = 1
          · have hpl1 := hpl hk1
            rw [← hpl1] at hra
            rw [hk1] at n0
            clear hpl hpl1 hk1
            obtain ⟨d2, e2⟩ := R
            simp only at hra HR6 HI' ⊢
            have HSN6 := Lib.hid (fun w' (hb : Below w6.heap.size w6 w') => seen_walk own2 w' kd blk2 d2 (HR6.out.below hb) HI'.out.inv.ok HI'.out.inv.fa _ HI'.out.bd (by omega) HI'.out.off)
            unfold ptr at HSN6
            rcases hra with (rfl | rfl) | ⟨rfl, hno, him⟩ | ⟨rfl, hyes, him⟩
            · go_wp2_with fail
              go_roundw
              case rel => exact ⟨i + 1, d2, own2, blk2, by omega, by go_num, HI'.out, HR6.out, HF6'.out⟩
              case measure => simp [RowKit.intOf]; omega
            · go_wp2_with fail
              go_roundw
              case rel => exact ⟨i + 1, d2, own2, blk2, by omega, by go_num, HI'.out, HR6.out, HF6'.out⟩
              case measure => simp [RowKit.intOf]; omega
            · have hno2 : ¬ (d.used : Int) + (o.f5.length : Int) ≤ (room : Int) := by omega
              rw [him, HIM.out] at HSN6
              clear hno him
              go_wp2_with (first | (go_at_call 25; refine (HSN6.out _ (Below.refl _ _)).mono ?_; rintro e w7 ⟨v7, rfl, hr7, hb7⟩; obtain ⟨A7, c7, rfl⟩ := Kd.R_slice hr7; have HR7 := Lib.hid (R_img (by rw [List.length_map] at hr7; exact hr7)); have HB7 := Lib.hid hb7; clear hr7 hb7))
              have h8 := R_img HW8.out
              have HSAME := Lib.hid (image_same I A7 A8 c7 c8 w7 HR7.out ⟨Kd.C_below h8.1 HB7.out, h8.2⟩ (by omega) HIL.out)
              clear h8
              go_wp2_with (first | (go_at_call 20; refine HSAME.out.mono ?_; rintro e w9 ⟨rfl, hb9⟩; have HB9 := Lib.hid hb9; clear hb9))
              go_roundw
              case rel => exact ⟨i + 1, d2, own2, blk2, by omega, by go_num, HI'.out, HR6.out.below (HB7.out.trans (HB9.out.mono HB7.out.size)), HF6'.out.trans (Fr.of_below (HB7.out.trans (HB9.out.mono HB7.out.size)))⟩
              case measure => simp [RowKit.intOf]; omega
            · have hyes2 : (d.used : Int) + (o.f5.length : Int) ≤ (room : Int) := by omega
              rw [HIM.out] at him
              obtain ⟨J, hJ⟩ : ∃ J, d2.image = J := ⟨_, rfl⟩
              have hJ64 : J.length ≤ 64 := by rw [← hJ]; unfold Dk.image; rw [List.length_map]; exact HI'.out.inv.ok.few
              rw [hJ] at him HSN6
              obtain ⟨old, hold⟩ : ∃ old, (imgFind I o.f3).getD [] = old := ⟨_, rfl⟩
              rw [hold] at him
              obtain ⟨N, hN⟩ : ∃ N, old ++ toBy o.f5 = N := ⟨_, rfl⟩
              rw [hN] at him
              have hXS : ints old ++ o.f5 = ints N := by
                rw [← hN, ints_append, HOOK.out.bytes]
              have holdl : old.length ≤ 1000000000 := by
                rw [← hold]
                cases e : imgFind I o.f3 with
                | none => simp
                | some b =>
                  have hb : ∃ x ∈ I, x.2 = b := by
                    clear him hold hN hXS HSN6
                    revert e
                    generalize I = I'
                    intro e
                    induction I' with
                    | nil => cases e
                    | cons x r ih =>
                      rw [imgFind_cons] at e
                      split at e
                      · exact ⟨x, by simp, Option.some.inj e⟩
                      · obtain ⟨y, hy, hyb⟩ := ih e
                        exact ⟨y, by simp [hy], hyb⟩
                  obtain ⟨x, hx, rfl⟩ := hb
                  exact HIL.out x hx
              have hNl : N.length ≤ 2000000000 := by rw [← hN, List.length_append, toBy_len]; omega
              have h8 := R_img HW8.out
              have HFW := Lib.hid (imgfind_walk I o.f3 A8 c8 w6 h8.1 (by omega))
              rw [hold] at HFW
              have HIMN := Lib.hid him
              have HXS := Lib.hid hXS
              have HJF := Lib.hid (fun W A c (h : Kd.C k28 W A J.length (J.map encF)) => imgfind_walk J o.f3 A c W h (by omega))
              rw [him] at HJF
              simp only [Option.getD_some, Option.isSome_some] at HJF
              clear him hold hN hXS h8 hyes hJ
              go_upto_region 24 with (first | (go_at_call 27; refine HFW.out.mono ?_; rintro e w6 ⟨A13, c13, rfl, hl13, hc13, rfl⟩; have HC13 := Lib.hid hc13; have HL13 := Lib.hid hl13; clear hl13 hc13))
              have m3 : w6.drew.cell? ⟨kb, 3, none⟩ = some (.string o.f3) := n3
              go_cut [15, 16] from 114 to 121 (fun v15 v16 wx => ∃ A15 c15, v15 = .slice A15 N.length c15 ∧ v16 = .bool true ∧ N.length ≤ c15 ∧ Kd.C kB wx A15 N.length (ints N) ∧ Below w6.heap.size w6 wx)
              case first =>
                go_region_held3 (fun w' => w'.cell? ⟨kb, 3, none⟩ = some (.string o.f3)) (first | exact n3 | exact pw_cell_below (by assumption) m3 | assumption)
                  (first | (go_at_call 25; refine (HSN6.out _ (below_drewN' w6 1)).mono ?_; rintro e w7 ⟨v7, rfl, hr7, hb7⟩; obtain ⟨A7, c7, rfl⟩ := Kd.R_slice hr7) | (go_at_call 27; refine (HJF.out _ _ _ (R_img (by rw [List.length_map] at hr7; exact hr7)).1).mono ?_; rintro e w7 ⟨A15, c15, rfl, hl15, hc15, rfl⟩))
                go_wp2_with fail
                go_meet
                case rel => exact ⟨A15, c15, rfl, rfl, hl15, by rw [ints_length] at hc15; exact hc15, (below_drewN' w6 1).trans hb7⟩
              case rest =>
                obtain ⟨A15, c15, rfl, rfl, hl15, hc15, hb15⟩ := hcut
                have n5c := pw_cell_below hb15 n5
                have HC15 := Lib.hid hc15
                have HB15 := Lib.hid hb15
                have HL15 := Lib.hid hl15
                have HC13c := Lib.hid (Kd.C_below HC13.out hb15)
                have hb0c : Below w0.heap.size w0 wc := (HB03.out.trans (HF6'.out.below HB03.out.size HOWN0.out)).trans (hb15.mono (Nat.le_trans HB03.out.size HF6'.out.size))
                have HC5c := Lib.hid (Kd.C_below HC5.out hb0c)
                clear hc15 hb15 hl15 hb0c n0 n3 n5
                go_wp2_with fail
                go_cut [133] from 122 to 133 (fun v133 wx => v133 = .bool false ∧ Below wc.heap.size wc wx)
                case first =>
                  have m5 : wc.drew.cell? ⟨kb, 5, none⟩ = some (.slice A5 o.f5.length c5) := n5c
                  have HCP := Lib.hid (copy_walk old A13 c13 wc.drew HC13c.out holdl)
                  go_region_held3 (fun w' => w'.cell? ⟨kb, 5, none⟩ = some (.slice A5 o.f5.length c5)) (first | exact n5c | exact pw_cell_below (by assumption) m5 | assumption | exact pw_cell_below hbA m5)
                    (first | (go_at_call 28; refine HCP.out.mono ?_; rintro e w7 ⟨v7, rfl, hr7, hb7⟩; obtain ⟨A7, c7, rfl, hl7, hc7⟩ := R_sliceI hr7) | ((refine Kd.R_append_rows_step kB (Rr := fun x cs => cs = [Value.int .u8 x]) (w0 := wc.drew) (W := w7) wc.drew.heap.size (by rfl) (.tmp 127) (.tmp 129) 26 5 (.int .u8 0) 1 (by rfl) Try.underlying26 info5 rfl (by decide) (by decide) (.slice A7 old.length c7) (ints old) o.f5 A5 o.f5.length c5 (fun k => wc.drew.heap.size ≤ k) (fun _ => False) (by rfl) (by rfl) hr7 (Kd.C_below HC5c.out (Below.trans (below_drewN' wc 1) hb7)) (fun x cs h => h) (fun _ hk => hk.elim) (fun k hk => Nat.le_trans hb7.size hk) hb7 hb7.size (by rw [ints_length]; omega) ?_; intro v9 w9 hr9 hbA hg9 hat9; obtain ⟨A9', c9', rfl, hl9, hc9⟩ := R_sliceI (by rw [HXS.out] at hr9; exact hr9))) | (go_at_call 19; refine (eq_walk N N A15 A9' c15 c9' w9 (Kd.C_below HC15.out (Below.trans (below_drewN' wc 1) hbA)) HL15.out hc9 hl9 (by omega)).mono ?_; rintro e w10 ⟨rfl, q, hq⟩))
                  go_wp2_with fail
                  go_meet
                  case rel => exact ⟨by simp, pw_below_drewN (Below.trans (below_drewN' wc 1) hbA) q⟩
                case rest =>
                  obtain ⟨rfl, hb9⟩ := hcut
                  have HB9 := Lib.hid (HB15.out.trans (hb9.mono HB15.out.size))
                  clear hb9
                  go_wp2_with fail
                  go_roundw
                  case rel => exact ⟨i + 1, d2, own2, blk2, by omega, by go_num, HI'.out, HR6.out.below HB9.out, HF6'.out.trans (Fr.of_below HB9.out)⟩
                  case measure => simp [RowKit.intOf]; omega
          · clear hpl hra
            obtain ⟨d2, e2⟩ := R
            simp only at HR6 HI' ⊢
            go_wp2_with fail
            go_roundw
            case rel => exact ⟨i + 1, d2, own2, blk2, by omega, by go_num, HI'.out, HR6.out, HF6'.out⟩
            case measure => simp [RowKit.intOf]; omega
    · have hil : i = ops.length := by omega
      have qi1 : ¬ (i : Int) < (ops.length : Int) := by omega
      go_wp2_with fail
      go_ret
      exact ⟨by simp, HB03.out.trans (HFI.out.below HB03.out.size HOWN0.out)⟩
end Go.Proofs.Ytonecajkfbdnmaa.Dk

namespace Go.Proofs.Ytonecajkfbdnmaa.Dk
open Go.Lib Go.RowKit Go.Deep Go.Joins Go.ChangeShapes Go.WideShapes Go.Proofs.YtonecajkfbdnmaaW.PrintWords Go.Proofs.Ytonecajkfbdnmaa.PDiskRoom
set_option linter.unusedVariables false
set_option linter.unusedSimpArgs false
set_option maxRecDepth 100000

section
variable {H : Type} {enc : TypeId × Value → H} {W : World}
theorem bulk_pos : ∀ d : DataW H, 1 ≤ Rows.uptoBulk d
  | .lit (.string b) => by simp [Rows.uptoBulk]
  | .lit (.bool b) => by simp [Rows.uptoBulk]
  | .lit (.int k n) => by simp [Rows.uptoBulk]
  | .lit (.float k n) => by simp [Rows.uptoBulk]
  | .lit .nil => by simp [Rows.uptoBulk]
  | .nil => by simp [Rows.uptoBulk]
  | .ptr d => by simp [Rows.uptoBulk]
  | .slice a b => by simp [Rows.uptoBulk]
  | .agg p => by simp [Rows.uptoBulk]
  | .iface _ d => by simp [Rows.uptoBulk]
  | .map es => by simp [Rows.uptoBulk]
  | .held _ => by simp [Rows.uptoBulk]
theorem bulk_mem : ∀ {ds : List (DataW H)} {d : DataW H}, d ∈ ds → Rows.uptoBulk d ≤ Rows.uptoBulkAll ds
  | a :: r, d, h => by
    rcases List.mem_cons.1 h with rfl | h
    · simp [Rows.uptoBulkAll]
    · have := bulk_mem h
      simp only [Rows.uptoBulkAll]; omega
theorem bulk_len : ∀ (ds : List (DataW H)), ds.length ≤ Rows.uptoBulkAll ds
  | [] => by simp
  | a :: r => by
    have := bulk_len r
    have := bulk_pos a
    simp only [Rows.uptoBulkAll, List.length_cons]; omega
/-- A row, opened: its elements by d. -/
theorem open_row {α : Type} [Inhabited α] (d : Kd α) (t e : TypeId) (ht : Try.prog.underlying t = some (.slice e)) (hsz : Try.prog.cellsOf e = d.sz) {sp : Nat → Bool} {b : Nat} {held : Bool} (Good : DataW H → α → Prop)
    (each : ∀ n cs y, DataW.trod enc Try.prog W b sp held n e cs = some y → ∃ x, d.K W x cs ∧ Good y.1 x) {n : Nat} {v : Value} {y : DataW H × List MemPlace} (h : DataW.trod enc Try.prog W b sp held n t [v] = some y) :
    ∃ (A : Option Addr) (l : List α) (c : Nat), v = .slice A l.length c ∧ l.length ≤ c ∧ Kd.C d W A l.length l ∧ l.length ≤ Rows.uptoBulk y.1 ∧ ∀ x ∈ l, ∃ D, Good D x ∧ Rows.uptoBulk D ≤ Rows.uptoBulk y.1 := by
  rcases open_slice ht h with ⟨h0, rfl⟩ | ⟨a, len, cap, m, n', D, Pl, h0, _, hlc, hcm, hm, rfl, hel⟩
  · obtain rfl : v = .slice none 0 0 := by simpa using h0
    exact ⟨none, [], 0, rfl, Nat.le_refl _, Kd.C_nil _ _, Nat.zero_le _, fun u hu => by simp at hu⟩
  · obtain rfl : v = .slice (some a) len cap := by simpa using h0
    have hlm : len ≤ m := by rw [hm]; split <;> omega
    have each2 : ∀ i, i < len → ∃ u : α, (∃ cs, W.cells? b (a.add (i * d.sz)) d.sz = some cs ∧ d.K W u cs) ∧ Good (D i) u := fun i hi => by
      obtain ⟨cs', h1, h2⟩ := hel i (by omega)
      rw [hsz] at h1
      obtain ⟨u, h3, h4⟩ := each _ _ _ h2
      exact ⟨u, ⟨cs', h1, h3⟩, h4⟩
    obtain ⟨U, hU⟩ := choose_lt each2
    have hlen : ((List.range len).map U).length = len := by simp
    refine ⟨some a, (List.range len).map U, cap, by rw [hlen], by rw [hlen]; exact hlc, ⟨rfl, by rw [hlen]; unfold maxLen at hcm; omega, fun _ => ⟨a, rfl, fun j p hj => ?_⟩⟩, ?_, fun u hu => ?_⟩
    · rw [List.getElem?_map] at hj
      obtain ⟨i, hi, rfl⟩ := Option.map_eq_some_iff.1 hj
      obtain ⟨hjl, rfl⟩ := List.getElem?_eq_some_iff.1 hi
      rw [List.length_range] at hjl
      rw [List.getElem_range]
      obtain ⟨cs, h1, h2⟩ := (hU j hjl).1
      refine ⟨cs, d.K_len h2, h2, fun i u hu => ?_⟩
      obtain ⟨_, hl1, hcell⟩ := World.cells?_some h1
      have hi4 : i < d.sz := by
        have := (List.getElem?_eq_some_iff.1 hu).1
        rw [d.K_len h2] at this
        exact this
      have := hcell i hi4
      rw [hu] at this
      rw [← this]
      congr 1
      show a.add (j * d.sz + i) = (a.add (j * d.sz)).add i
      rw [Go.Deep.add_add]
    · rw [hlen]
      have := bulk_len ((List.range len).map D)
      simp only [Rows.uptoBulk]
      simp at this
      omega
    · obtain ⟨i, hi, rfl⟩ := List.mem_map.1 hu
      have hi := List.mem_range.1 hi
      refine ⟨D i, (hU i hi).2, ?_⟩
      have := bulk_mem (ds := (List.range len).map D) (List.mem_map_of_mem (List.mem_range.2 hi))
      simp only [Rows.uptoBulk]
      omega
theorem open_bytes {sp : Nat → Bool} {b : Nat} {held : Bool} {n : Nat} {v : Value} {y : DataW H × List MemPlace} (h : DataW.trod enc Try.prog W b sp held n 26 [v] = some y) :
    ∃ (A : Option Addr) (l : List Int) (c : Nat), v = .slice A l.length c ∧ l.length ≤ c ∧ Kd.C kB W A l.length l ∧ l.length ≤ Rows.uptoBulk y.1 ∧ ∀ x ∈ l, 0 ≤ x ∧ x ≤ 255 := by
  obtain ⟨A, l, c, h1, h2, h3, h4, h5⟩ := open_row (α := Int) kB 26 5 Try.underlying26 (by kernel_rfl) (fun _ x => 0 ≤ x ∧ x ≤ 255) (fun n cs y hy => by
    obtain ⟨x, rfl, rfl, hw⟩ := DataW.trod_int Try.underlying5 hy
    refine ⟨x, rfl, ?_⟩
    simp [Lit.wf, IntKind.min, IntKind.max, IntKind.signed, IntKind.bits] at hw
    omega) h
  exact ⟨A, l, c, h1, h2, h3, h4, fun x hx => (h5 x hx).elim fun _ h => h.1⟩
theorem open_picks {sp : Nat → Bool} {b : Nat} {held : Bool} {n : Nat} {v : Value} {y : DataW H × List MemPlace} (h : DataW.trod enc Try.prog W b sp held n 23 [v] = some y) :
    ∃ (A : Option Addr) (l : List Int) (c : Nat), v = .slice A l.length c ∧ l.length ≤ c ∧ Kd.C (Kd.int .i64) W A l.length l ∧ l.length ≤ Rows.uptoBulk y.1 ∧ ∀ x ∈ l, -9223372036854775808 ≤ x ∧ x ≤ 9223372036854775807 := by
  obtain ⟨A, l, c, h1, h2, h3, h4, h5⟩ := open_row (α := Int) (Kd.int .i64) 23 3 Try.underlying23 (by kernel_rfl) (fun _ x => -9223372036854775808 ≤ x ∧ x ≤ 9223372036854775807) (fun n cs y hy => by
    obtain ⟨x, rfl, rfl, hw⟩ := DataW.trod_int Try.underlying3 hy
    refine ⟨x, rfl, ?_⟩
    simp [Lit.wf, IntKind.min, IntKind.max, IntKind.signed, IntKind.bits] at hw
    omega) h
  exact ⟨A, l, c, h1, h2, h3, h4, fun x hx => (h5 x hx).elim fun _ h => h.1⟩

theorem bulk_agg {ds : List (DataW H)} {d : DataW H} (h : d ∈ ds) : Rows.uptoBulk d ≤ Rows.uptoBulk (.agg ds) := by
  have := bulk_mem h
  simp only [Rows.uptoBulk]; omega
theorem open_plan {sp : Nat → Bool} {b : Nat} {held : Bool} {n : Nat} {cs : List Value} {y : DataW H × List MemPlace} (h : DataW.trod enc Try.prog W b sp held n 56 cs = some y) :
    ∃ p : S56, cs = [.int .i64 p.f0, .int .i64 p.f1, .int .i64 p.f2] := by
  obtain ⟨xs, m, _, rfl, hl, hlen, hf⟩ := DataW.trod_struct Try.underlying56 h
  have hc : cs.length = 3 := hl.trans (by kernel_rfl)
  match cs, hc, xs, hlen with
  | [c0, c1, c2], _, [y0, y1, y2], _ =>
    have k3 : Try.prog.cellsOf 3 = 1 := by kernel_rfl
    have h0 : DataW.trod enc Try.prog W b sp held m 3 [c0] = some y0 := by simpa [k3] using hf 0 _ rfl
    have h1 : DataW.trod enc Try.prog W b sp held m 3 [c1] = some y1 := by simpa [k3] using hf 1 _ rfl
    have h2 : DataW.trod enc Try.prog W b sp held m 3 [c2] = some y2 := by simpa [k3] using hf 2 _ rfl
    obtain ⟨a0, e0, rfl, _⟩ := DataW.trod_int Try.underlying3 h0
    obtain ⟨a1, e1, rfl, _⟩ := DataW.trod_int Try.underlying3 h1
    obtain ⟨a2, e2, rfl, _⟩ := DataW.trod_int Try.underlying3 h2
    simp only [List.cons.injEq, and_true] at e0 e1 e2
    subst e0 e1 e2
    exact ⟨⟨a0, a1, a2⟩, rfl⟩
/-- What is known of a step that came in. -/
structure OpIn (N : Nat) (o : S58) : Prop where
  bytes : ∀ x ∈ o.f5, 0 ≤ x ∧ x ≤ 255
  len : o.f5.length ≤ N
  name : o.f3.size ≤ N
  to_ : o.f4.size ≤ N
  n : -9223372036854775808 ≤ o.f2 ∧ o.f2 ≤ 9223372036854775807
theorem OpIn.ok {N : Nat} {o : S58} (h : OpIn N o) (hN : N ≤ 1000000000) : OpOk o := by
  refine ⟨?_, Nat.le_trans h.len hN, Nat.le_trans h.name (by unfold big; omega), Nat.le_trans h.to_ (by unfold big; omega), h.n⟩
  unfold ints toBy
  rw [List.map_map]
  refine (List.map_congr_left (fun x hx => ?_)).trans (List.map_id _)
  obtain ⟨h1, h2⟩ := h.bytes x hx
  show ((UInt8.ofNat x.toNat).toNat : Int) = x
  rw [UInt8.toNat_ofNat']
  omega
theorem open_op {sp : Nat → Bool} {b : Nat} {held : Bool} {n : Nat} {cs : List Value} {y : DataW H × List MemPlace} (h : DataW.trod enc Try.prog W b sp held n 58 cs = some y) :
    ∃ o : S58, k58.K W o cs ∧ OpIn (Rows.uptoBulk y.1) o := by
  obtain ⟨xs, m, _, rfl, hl, hlen, hf⟩ := DataW.trod_struct Try.underlying58 h
  have hc : cs.length = 10 := hl.trans (by kernel_rfl)
  match cs, hc, xs, hlen with
  | [c0, c1, c2, c3, c4, c5, c6, c7, c8, c9], _, [y0, y1, y2, y3, y4, y5, y6, y7], _ =>
    have k3 : Try.prog.cellsOf 3 = 1 := by kernel_rfl
    have k9 : Try.prog.cellsOf 9 = 1 := by kernel_rfl
    have k26 : Try.prog.cellsOf 26 = 1 := by kernel_rfl
    have k23 : Try.prog.cellsOf 23 = 1 := by kernel_rfl
    have k56 : Try.prog.cellsOf 56 = 3 := by kernel_rfl
    have h0 : DataW.trod enc Try.prog W b sp held m 3 [c0] = some y0 := by simpa [k3, k9, k26, k23, k56] using hf 0 _ rfl
    have h1 : DataW.trod enc Try.prog W b sp held m 3 [c1] = some y1 := by simpa [k3, k9, k26, k23, k56] using hf 1 _ rfl
    have h2 : DataW.trod enc Try.prog W b sp held m 3 [c2] = some y2 := by simpa [k3, k9, k26, k23, k56] using hf 2 _ rfl
    have h3 : DataW.trod enc Try.prog W b sp held m 9 [c3] = some y3 := by simpa [k3, k9, k26, k23, k56] using hf 3 _ rfl
    have h4 : DataW.trod enc Try.prog W b sp held m 9 [c4] = some y4 := by simpa [k3, k9, k26, k23, k56] using hf 4 _ rfl
    have h5 : DataW.trod enc Try.prog W b sp held m 26 [c5] = some y5 := by simpa [k3, k9, k26, k23, k56] using hf 5 _ rfl
    have h6 : DataW.trod enc Try.prog W b sp held m 56 [c6, c7, c8] = some y6 := by simpa [k3, k9, k26, k23, k56] using hf 6 _ rfl
    have h7 : DataW.trod enc Try.prog W b sp held m 23 [c9] = some y7 := by simpa [k3, k9, k26, k23, k56] using hf 7 _ rfl
    obtain ⟨a0, e0, rfl, _⟩ := DataW.trod_int Try.underlying3 h0
    obtain ⟨a1, e1, rfl, _⟩ := DataW.trod_int Try.underlying3 h1
    obtain ⟨a2, e2, rfl, w2⟩ := DataW.trod_int Try.underlying3 h2
    obtain ⟨s3, e3, rfl, _⟩ := DataW.trod_string Try.underlying9 h3
    obtain ⟨s4, e4, rfl, _⟩ := DataW.trod_string Try.underlying9 h4
    obtain ⟨A5, l5, cc5, rfl, hl5, hC5, hb5, hr5⟩ := open_bytes h5
    obtain ⟨p, e6⟩ := open_plan h6
    obtain ⟨A9, l9, cc9, rfl, hl9, hC9, hb9, hr9⟩ := open_picks h7
    simp only [List.cons.injEq, and_true] at e0 e1 e2 e3 e4 e6
    obtain ⟨rfl, rfl, rfl⟩ := e6
    subst e0 e1 e2 e3 e4
    refine ⟨⟨a0, a1, a2, s3, s4, l5, p, l9⟩, k58_mk W ⟨a0, a1, a2, s3, s4, l5, p, l9⟩ hl5 hC5 hl9 hC9, hr5, ?_, ?_, ?_, ?_⟩
    · exact Nat.le_trans hb5 (bulk_agg (by simp))
    · have hm := bulk_agg (H := H) (ds := [.lit (.int .i64 a0), .lit (.int .i64 a1), .lit (.int .i64 a2), .lit (.string s3.data.toList), .lit (.string s4.data.toList), y5.1, y6.1, y7.1]) (d := .lit (.string s3.data.toList)) (by simp)
      simp only [Rows.uptoBulk] at hm ⊢
      have : s3.size = s3.data.toList.length := by simp
      simp only [List.map_cons, List.map_nil]
      show s3.size ≤ _
      omega
    · have hm := bulk_agg (H := H) (ds := [.lit (.int .i64 a0), .lit (.int .i64 a1), .lit (.int .i64 a2), .lit (.string s3.data.toList), .lit (.string s4.data.toList), y5.1, y6.1, y7.1]) (d := .lit (.string s4.data.toList)) (by simp)
      simp only [Rows.uptoBulk] at hm ⊢
      have : s4.size = s4.data.toList.length := by simp
      simp only [List.map_cons, List.map_nil]
      show s4.size ≤ _
      omega
    · simp [Lit.wf, IntKind.min, IntKind.max, IntKind.signed, IntKind.bits] at w2
      exact ⟨by show _ ≤ a2; omega, by show a2 ≤ _; omega⟩
theorem OpIn.mono {N M : Nat} {o : S58} (h : OpIn N o) (hm : N ≤ M) : OpIn M o := ⟨h.bytes, Nat.le_trans h.len hm, Nat.le_trans h.name hm, Nat.le_trans h.to_ hm, h.n⟩
instance inhS58 : Inhabited S58 := ⟨z58⟩
theorem open_ops {sp : Nat → Bool} {b : Nat} {held : Bool} {n : Nat} {v : Value} {y : DataW H × List MemPlace} (h : DataW.trod enc Try.prog W b sp held n 48 [v] = some y) :
    ∃ (A : Option Addr) (l : List S58) (c : Nat), v = .slice A l.length c ∧ l.length ≤ c ∧ Kd.C k58 W A l.length l ∧ l.length ≤ Rows.uptoBulk y.1 ∧ ∀ o ∈ l, OpIn (Rows.uptoBulk y.1) o := by
  obtain ⟨A, l, c, h1, h2, h3, h4, h5⟩ := open_row (α := S58) k58 48 58 Try.underlying48 (by kernel_rfl) (fun D o => OpIn (Rows.uptoBulk D) o) (fun n cs y hy => open_op hy) h
  exact ⟨A, l, c, h1, h2, h3, h4, fun x hx => (h5 x hx).elim fun D hD => hD.1.mono hD.2⟩
end
end Go.Proofs.Ytonecajkfbdnmaa.Dk

namespace Go.Proofs.Ytonecajkfbdnmaa.Dr
set_option linter.unusedVariables false
open Go.ChangeShapes Go.WideShapes Go.ChangeAt Go.RowKit Go.Lib Go.Deep Go.Proofs.Ytonecajkfbdnmaa.Dk
open Go.Proofs.YtonecajkfbdnmaaW.PrintWords

theorem own : ownKnob Try.prog.godebug = none := by kernel_rfl
set_option maxRecDepth 100000 in
theorem contract (H : Type) (enc : TypeId × Value → H) (W : World) (base : Nat) (args : Array Value) (ds gs : List (DataW H)) (before : List MemPlace)
    (hval : ∀ (j : Nat) t v, Try.f4.params[j]? = some t → args[j]? = some v → Value.okWide Try.prog W .any base t v)
    (hW : DataW.Whole enc Try.prog Try.f4.params.toList Rows.diskRoomSpec.vars false W args.toList ds gs before)
    (hcond : Rows.uptoSmall H (ds ++ gs) = true) :
    Calls Try.prog 4 args W fun e W' => ∃ v, e = .returned v ∧ Rows.diskRoomSpec.post enc Try.prog Try.f4 false true false false W args v W' := by
  have hW' := hW
  have hlt := hW.lt
  obtain ⟨p, q, hA0, hV, rfl, hfz, hnd⟩ := hW
  have hA : DataW.TrodAll enc Try.prog W 0 (fun _ => true) true Try.f4.params.toList args.toList ds p := hA0
  rw [Try.params4] at hA hval
  obtain ⟨v0, d0, rfl, rfl, h0⟩ := trodAll_one hA
  obtain ⟨rfl, rfl⟩ := trodVars_none hV
  have hok := hval 0 50 v0 rfl rfl
  clear hA0 hval
  simp only [List.append_nil] at hW' hlt
  have fin : ∀ W', Below W.heap.size W W' → Rows.diskRoomSpec.post enc Try.prog Try.f4 false true false false W #[v0] (.bool true) W' := fun W' bel =>
    ⟨_, _, _, [], _, [], hW', trodAll_mk1 (shut_bool Try.underlying4 _), trodAll_mk1 (Below.trod (by kernel_rfl) (by kernel_rfl) (of_decide_eq_true (by kernel_rfl)) h0 bel hlt), rfl, bel.frame _, fun h => by cases h⟩
  obtain ⟨x0, x1, y0, y1, n, rfl, rfl, rfl, hx0, hx1⟩ := Joins.open_agg2 Try.underlying50 (by kernel_rfl) (by kernel_rfl) hok h0
  obtain ⟨r, e0, _, _⟩ := DataW.trod_int Try.underlying3 hx0
  obtain rfl : x0 = .int .i64 r := by simpa using e0
  obtain ⟨A, l, c, rfl, hc, hC, hl, hin⟩ := open_ops hx1
  have hb : Rows.uptoBulk y1.1 ≤ 1048576 := by
    have hb0 := of_decide_eq_true hcond
    simp only [List.append_nil, Rows.uptoBulkAll, Rows.uptoBulk] at hb0
    omega
  have walk := diskRoom_walk W r A c l hC (by omega) (fun o ho => (hin o ho).ok (by omega))
  refine walk.mono fun e W' ⟨he, bel⟩ => ?_
  subst he
  exact ⟨_, rfl, fin W' bel⟩
theorem witness_row (os : Os) {H : Type} (enc : TypeId × Value → H) :
    (Rows.OpenSpec.upto Rows.diskRoomSpec).preRow enc Try.prog Try.f4 Rows.diskRoomUptoRow.domain false Rows.diskRoomUptoRow.laid ((World.settled Try.prog os).forCall (fun _ _ => 0) ⟨#[], #[.agg #[.int .i64 0, .slice none 0 0]], []⟩).memory #[.agg #[.int .i64 0, .slice none 0 0]] := by
  have hw : (DataW.whole enc Try.prog ((World.settled Try.prog os).forCall (fun _ _ => 0) ⟨#[], #[.agg #[.int .i64 0, .slice none 0 0]], []⟩).memory Try.f4.params.toList Rows.diskRoomSpec.vars false #[Value.agg #[.int .i64 0, .slice none 0 0]].toList 8).map (fun x => (x.1, x.2.1)) =
      some ([.agg [.lit (.int .i64 0), .nil]], []) := by kernel_rfl
  obtain ⟨⟨x1, x2, x3⟩, hx, hx1⟩ := Option.map_eq_some_iff.1 hw
  simp only [Prod.mk.injEq] at hx1
  obtain ⟨rfl, rfl⟩ := hx1
  exact OpenSpec.preRow_of_cond 8 hx (by kernel_rfl) (fun k hk => by cases hk; kernel_rfl) (by kernel_rfl) (laidMet_nil _ _)
set_option maxRecDepth 100000 in
set_option maxHeartbeats 2000000 in
theorem lifted (os : Os) (started : os.Started) (H : Type) (enc : TypeId × Value → H) (F : Stop.Interp) :
    ReturnsInHanded {} Try.checked os 4 .any ((Rows.OpenSpec.upto Rows.diskRoomSpec).preRow enc Try.prog Try.f4 Rows.diskRoomUptoRow.domain false Rows.diskRoomUptoRow.laid) (((Rows.OpenSpec.upto Rows.diskRoomSpec).at F).post enc Try.prog Try.f4 false true false false) := by
  refine returnsInHanded_of_row (C := Try.checked) (s := Rows.OpenSpec.upto Rows.diskRoomSpec) own started (by kernel_rfl) Try.func4
    (witness_row_at (enc := enc) (C := Try.checked) false (World.settled Try.prog os) #[.agg #[.int .i64 0, .slice none 0 0]] rfl (by kernel_rfl) (by kernel_rfl) (by kernel_rfl) (witness_row os enc)) ?_
  intro W base args ds gs before hval hW _ hcond _ _ _ _
  exact contract H enc W base args ds gs before hval hW (hcond _ rfl)
theorem said : Rows.DiskRoomUptoSaid :=
  OpenClaim.holds_of_cond 4 Try.f4 rfl rfl rfl rfl rfl rfl rfl ⟨rfl, rfl, rfl, rfl, rfl⟩ rfl rfl rfl rfl rfl (by kernel_rfl) Try.func4 (by kernel_rfl)
    (of_decide_eq_true (by kernel_rfl)) (by unfold Func.isWrapper; first | (rw [if_pos (by decide +kernel)]; kernel_rfl) | (rw [if_neg (by decide +kernel)]; exact ⟨rfl, rfl⟩))
    (fun os started H enc _ F => by rw [OpenClaim.pre_eq_preRow]; exact lifted os started H enc F)
end Go.Proofs.Ytonecajkfbdnmaa.Dr
namespace Go.Proofs.Ytonecajkfbdnmaa
theorem diskRoomUpto_holds : Rows.DiskRoomUptoSaid := Dr.said
#print axioms diskRoomUpto_holds
end Go.Proofs.Ytonecajkfbdnmaa
