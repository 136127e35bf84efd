/- The walks of the laws' open, allSafe and begins. -/
import Derived.Test.YtonecajkfbdnmaaEs
import Derived.Lib.SlBytesConst
import Derived.Test.YtonecajkfbdnmaaEf
import Derived.Lib.SmallJoins
import Derived.Deep.Slices
import Derived.Deep.Strs
import Derived.SizedLaws
namespace Go.Proofs.Ytonecajkfbdnmaa.Dk
open Go.Lib Go.RowKit Go.ChangeMaps Go.Proofs.Ytonecajkfbdnmaa.Mp Go.Proofs.YtonecajkfbdnmaaW.PrintWords Go.Proofs.YtonecajkfbdnmaaW.PrintLast Go.Proofs.YtonecajkfbdnmaaW.PrintMore Go.Proofs.Ytonecajkfbdnmaa.PDiskRoom
set_option linter.unusedVariables false
set_option linter.unusedSimpArgs false

abbrev nameA : ByteArray := ⟨#[97]⟩
abbrev xyz : By := [120, 121, 122]
theorem fairA : fair nameA = true := by decide +kernel
theorem new4_append : ((Dk.new 4).append nameA xyz).2 = 0 ∧ ((Dk.new 4).append nameA xyz).1.read nameA = (some xyz, 0) := by
  have hf : (Dk.new 4).find nameA = (none, 112) := by unfold Dk.find; rw [fairA]; rfl
  have e : (Dk.new 4).append nameA xyz = (((Dk.new 4).mk1 nameA).setFile 0 (Dk.give xyz), 0) := by
    unfold Dk.append
    rw [hf]
    rfl
  rw [e]
  refine ⟨rfl, ?_⟩
  have hg : (((Dk.new 4).mk1 nameA).setFile 0 (Dk.give xyz)).find nameA = (some 0, 0) := by
    unfold Dk.find
    rw [fairA]
    have : aget (((Dk.new 4).mk1 nameA).setFile 0 (Dk.give xyz)).names nameA = some 0 := by
      show aget (aput [] nameA 0) nameA = some 0
      rw [aget_put, if_pos rfl]
    rw [this]; rfl
  unfold Dk.read
  rw [hg]
  rfl
theorem Out.new {own : Own} {w : World} {cs : Array Value} {t : TypeId} {fr : Nat × Nat} {xs : List Int} (hl : ∀ k r, own k = some r → k < w.heap.size) (hcs : cs.toList = xs.map (Value.int .u8)) (hx : xs.length ≤ 1000000000) : Out own (w.alloc (.cells cs t fr)) (some ⟨w.heap.size, 0, none⟩) xs := by
  refine ⟨Kd.C_of_reads (d := (0 : Int)) ⟨rfl, by omega, fun hn => ⟨_, rfl, fun j hj => ?_⟩⟩, fun ad e hn => ?_⟩
  · have hb := blk_new w (.cells cs t fr)
    have hc := cell_of_row (w.alloc (.cells cs t fr)) w.heap.size j cs t fr hb
    have h1 : (⟨w.heap.size, 0, none⟩ : Addr).add j = ⟨w.heap.size, j, none⟩ := by unfold Addr.add; split <;> simp_all
    rw [h1, hc, ← Array.getElem?_toList, hcs, List.getElem?_map, List.getD_eq_getElem?_getD, List.getElem?_eq_getElem hj]
    rfl
  · obtain rfl := Option.some.inj e
    cases e2 : own w.heap.size with
    | none => rfl
    | some r => have := hl _ _ e2; omega

theorem str_xyz : strOfNums (ints xyz) = ⟨#[120, 121, 122]⟩ := by rfl
/-- A disk of its own in new memory. -/
def MadeN (w : World) (d : Dk) (e : Ending) (w' : World) : Prop := ∃ kd own blk, e = .returned (ptr kd) ∧ Rep own w' kd blk d ∧ Below w.heap.size w w' ∧ ∀ k r, own k = some r → w.heap.size ≤ k
set_option maxRecDepth 100000 in
set_option maxHeartbeats 4000000 in
theorem open_walk (w : World) : Calls Try.prog 29 #[] w (MadeN w (Dk.new 67108864)) := by
  have HN4 := Lib.hid (fun w => new_walk 4 (by omega) w)
  have HNM := Lib.hid (fun w => new_walk 67108864 (by omega) w)
  have HN := Lib.hid (fun r w => num_walk r w)
  have hi4 := new_inv 4 (by omega)
  have hb4 := new_bd 4 (by omega)
  have hfx := new4_append
  have hai := append_inv hi4 nameA xyz
  have hab := append_bd hi4 hb4 nameA xyz
  obtain ⟨d1, hd1⟩ : ∃ d1, (Dk.new 4).append nameA xyz = d1 := ⟨_, rfl⟩
  rw [hd1] at hfx hai hab
  have HD1 := Lib.hid hd1
  have HFX := Lib.hid hfx
  have HAI := Lib.hid hai
  have HAB := Lib.hid hab
  clear hfx hai hab hd1
  have HI4 := Lib.hid hi4
  have HB4 := Lib.hid hb4
  clear hi4 hb4
  have kc := fun (w : World) (C : Array Value) (n c : Nat) => Lib.run_convert_bytes_const (P := Try.prog) w 26 5 C n c Try.underlying26 Try.underlying5
  go_enter Try.func29, Try.ntmps29
  go_upto_region 2 with (first | (go_at_call 23; refine (HN4.out _).mono ?_; rintro e w1 ⟨kd1, own1, blk1, rfl, hr1, hb1, hn1⟩; have HR1 := Lib.hid hr1; have HB1 := Lib.hid hb1; have HN1 := Lib.hid hn1; clear hr1 hb1 hn1; unfold ptr))
  have hbb : Below w1.heap.size w1 (w1.alloc (.cells #[.int .u8 120, .int .u8 121, .int .u8 122] 5 (3, 4))) := below_alloc (Below.refl _ _) _
  have HBB := Lib.hid hbb
  have HAP := Lib.hid (append_walk own1 _ kd1 blk1 (Dk.new 4) (HR1.out.below hbb) HI4.out.ok 0 HB4.out (by omega) nameA (by unfold big; decide) (some ⟨w1.heap.size, 0, none⟩) 3 xyz (Out.new HR1.out.lt rfl (by decide)) (by decide))
  rw [HD1.out] at HAP
  unfold ptr at HAP
  clear hbb
  obtain ⟨d1', e1⟩ := d1
  obtain ⟨hz, hrd⟩ := HFX.out
  simp only at hz hrd
  subst hz
  have HRD := Lib.hid hrd
  clear hrd
  simp only [List.length_cons, List.length_nil, Nat.zero_add, Nat.reduceAdd] at HAP
  go_upto_region 4 with (first | (go_at_call 13; refine (HN.out _ _).mono ?_; rintro e w4 ⟨rfl, rfl⟩) | (go_at_call 48; refine HAP.out.mono ?_; rintro e w3 ⟨rfl, own2, blk2, hr2, hf2⟩; have HR2 := Lib.hid hr2; have HF2 := Lib.hid hf2; clear hr2 hf2))
  have hbd1 : Bd d1' 5 := HAB.out
  have HRW := Lib.hid (read_walk own2 _ kd1 blk2 d1' HR2.out HAI.out.ok.lt HAI.out.ok.sn (fun f hf => Nat.le_trans (hbd1.seen f hf) (by omega)) nameA (by unfold big; decide))
  rw [HRD.out] at HRW
  unfold ptr at HRW
  simp only [Option.getD_some] at HRW
  clear hbd1
  go_upto_region 5 with (first | (go_at_call 17; refine HRW.out.mono ?_; rintro e w5 ⟨v5, rfl, hr5, hb5⟩; obtain ⟨A5, c5, rfl, hl5, hc5⟩ := R_sliceI hr5; have HB5 := Lib.hid hb5; clear hr5 hb5))
  have hcs := Kd.C_string (P := Try.prog) (src := 26) (dst := 9) (c := c5) Try.underlying26 Try.underlying5 Try.underlying9 hc5
  rw [str_xyz] at hcs
  clear hc5 hl5
  simp only [List.length_cons, List.length_nil, Nat.zero_add, Nat.reduceAdd] at hcs
  go_upto_region 7 with (first | (go_at_call 13; refine (HN.out _ _).mono ?_; rintro e w5 ⟨rfl, rfl⟩))
  go_wp2_with (first | (go_at_call 13; refine (HN.out _ _).mono ?_; rintro e w6 ⟨rfl, rfl⟩) | (go_at_call 23; refine (HNM.out _).mono ?_; rintro e w6 ⟨kd2, own3, blk3, rfl, hr6, hb6, hn6⟩; have HR6 := Lib.hid hr6; have HB6 := Lib.hid hb6; have HN6 := Lib.hid hn6; clear hr6 hb6 hn6; unfold ptr))
  go_ret
  have b1 := HB1.out
  have b2 := b1.trans (HBB.out.mono b1.size)
  have b3 := b2.trans (HF2.out.below b2.size (fun k hk => by
    cases e : own1 k with
    | none => rfl
    | some x => have := HN1.out k x e; omega))
  have b5 := b3.trans (HB5.out.mono b3.size)
  have b6 := b5.trans (HB6.out.mono b5.size)
  exact ⟨kd2, own3, blk3, rfl, HR6.out, b6, fun k r h => Nat.le_trans b5.size (HN6.out k r h)⟩
/-! ### begins -/
def beginsB (b a : By) : Bool := decide (b.take a.length = a)
set_option maxRecDepth 100000 in
set_option maxHeartbeats 4000000 in
theorem begins_walk (b a : By) (A B : Option Addr) (ca cb : Nat) (w : World) (hB : Kd.C kB w B b.length (ints b)) (hcb : b.length ≤ cb) (hA : Kd.C kB w A a.length (ints a)) (hca : a.length ≤ ca) (hl : a.length ≤ 1000000000000 ∧ b.length ≤ 1000000000000) :
    Calls Try.prog 31 #[.slice B b.length cb, .slice A a.length ca] w fun e w' => e = .returned (.bool (beginsB b a)) ∧ ∃ m, w' = w.drewN m := by
  obtain ⟨hl1, hl2⟩ := hl
  by_cases hlt : a.length ≤ b.length
  · have htl : (b.take a.length).length = a.length := by rw [List.length_take]; omega
    have hCt : Kd.C kB w B (b.take a.length).length (ints (b.take a.length)) := by
      have h9 := Kd.C_take (m := a.length) (by rw [← ints_length b] at hB; exact hB) (by rw [ints_length]; exact hlt)
      have e9 : (ints b).take a.length = ints (b.take a.length) := by simp [ints, List.map_take]
      rw [e9, ints_length] at h9
      exact h9
    have HEQ := Lib.hid (eq_walk (b.take a.length) a B A cb ca w hCt (by rw [htl]; omega) hA hca (by rw [htl]; exact hl1))
    rw [htl] at HEQ
    obtain ⟨i5, hi5, _, hs5, _⟩ := info_parts info5
    have hsl := cut_to (P := Try.prog) 26 5 .i64 Try.underlying26 hi5 B b.length cb (a.length : Int) (by omega) (by omega) hcb
    rw [Int.toNat_natCast] at hsl
    have hq0 : (0 : Int) ≤ (a.length : Int) := by omega
    have hq1 : (a.length : Int) ≤ (b.length : Int) := by omega
    clear hi5 hs5 hCt hA hB htl
    go_enter Try.func31, Try.ntmps31
    go_wp2_with (first | (go_at_call 19; refine HEQ.out.mono ?_; rintro e w1 ⟨rfl, m, hm⟩))
    go_ret
    first | exact ⟨rfl, m, hm⟩ | exact ⟨rfl, m, rfl⟩
  · have hf : beginsB b a = false := by
      unfold beginsB
      simp
      intro e
      have := congrArg List.length e
      rw [List.length_take] at this
      omega
    rw [hf]
    have hq1 : ¬ (a.length : Int) ≤ (b.length : Int) := by omega
    clear hf hA hB
    go_enter Try.func31, Try.ntmps31
    go_wp2_with fail
    go_ret
    exact ⟨rfl, 0, rfl⟩

/-! ### allSafe -/
def Dk.syncAll (d : Dk) (l : List ByteArray) : Dk := l.foldl (fun d n => (d.sync n).1) d
theorem syncAll_succ (d : Dk) (l : List ByteArray) (i : Nat) (hi : i < l.length) : d.syncAll (l.take (i + 1)) = ((d.syncAll (l.take i)).sync l[i]).1 := by
  unfold Dk.syncAll
  rw [List.take_succ_eq_append_getElem hi, List.foldl_append]; rfl
/-- What a disk is like that goes on. -/
structure On (d : Dk) (B : Nat) : Prop where
  inv : d.Inv
  bd : Bd d B
  off : d.off = false
  po : d.plan.off ≤ 0
theorem On.play {d : Dk} {B : Nat} (h : On d B) (o : POp) : On (d.play o).1 (B + o.b.length + 2) := by
  have hc := play_calm d o
  exact ⟨play_inv h.inv o, play_bd h.inv h.bd o, hc.off h.off h.po, by rw [hc.plan]; exact h.po⟩
theorem sync_on {d : Dk} {B : Nat} (h : On d B) {n : ByteArray} {f : Nat} (hg : aget d.names n = some f) : d.sync n = (d.tick.setFile f Dk.syncF, 0) := by
  have hfa := h.inv.fa (n, f) ((mem_aget h.inv.ok.sn n f).2 hg)
  have hf : d.find n = (some f, 0) := by
    unfold Dk.find
    rw [h.off, hfa, hg]; rfl
  have hto := tick_off h.po
  unfold Dk.sync
  rw [hf]
  show ((if d.tick.off then d.tick else d.tick.setFile f Dk.syncF), d.tick.told) = _
  unfold Dk.told
  rw [hto]
  rfl
theorem On.sync {d : Dk} {B : Nat} (h : On d B) {n : ByteArray} {f : Nat} (hg : aget d.names n = some f) : On (d.sync n).1 (B + 2) ∧ (d.sync n).1.names = d.names := by
  have h1 := sync_inv h.inv n
  have h2 := sync_bd h.inv h.bd n
  rw [sync_on h hg] at h1 h2 ⊢
  exact ⟨⟨h1, h2, tick_off h.po, h.po⟩, rfl⟩
theorem On.syncAll : ∀ (l : List ByteArray) {d : Dk} {B : Nat} (h : On d B), (∀ n ∈ l, ∃ f, aget d.names n = some f) → On (d.syncAll l) (B + 2 * l.length) ∧ (d.syncAll l).names = d.names := by
  intro l
  induction l with
  | nil => intro d B h _; exact ⟨h, rfl⟩
  | cons n l ih =>
    intro d B h hl
    obtain ⟨f, hf⟩ := hl n (by simp)
    obtain ⟨h1, h2⟩ := h.sync hf
    obtain ⟨h3, h4⟩ := ih h1 (fun m hm => by rw [h2]; exact hl m (by simp [hm]))
    have e : d.syncAll (n :: l) = (d.sync n).1.syncAll l := rfl
    rw [e]
    exact ⟨⟨h3.inv, h3.bd.mono (by simp; omega), h3.off, h3.po⟩, h4.trans h2⟩
def Dk.namesOf (d : Dk) : List ByteArray := d.names.map (·.1)
def Dk.allSafe (d : Dk) : Dk := (d.syncAll d.namesOf).syncNames.1
end Go.Proofs.Ytonecajkfbdnmaa.Dk

namespace Go.Proofs.Ytonecajkfbdnmaa.Dk
open Go.Lib Go.RowKit Go.ChangeMaps Go.Proofs.Ytonecajkfbdnmaa.Mp Go.Proofs.YtonecajkfbdnmaaW.PrintWords Go.Proofs.YtonecajkfbdnmaaW.PrintLast Go.Proofs.YtonecajkfbdnmaaW.PrintMore Go.Proofs.Ytonecajkfbdnmaa.PDiskRoom
set_option linter.unusedVariables false
set_option linter.unusedSimpArgs false

theorem syncNames_on {d : Dk} {B : Nat} (h : On d B) : d.syncNames = ({ d.tick with sure := chplay d.sure d.changes, changes := [] }, 0) := by
  have hto := tick_off h.po
  unfold Dk.syncNames
  rw [h.off, hto]
  unfold Dk.told
  rw [hto]
  rfl
theorem On.syncNames {d : Dk} {B : Nat} (h : On d B) : On d.syncNames.1 (B + 2) := by
  have h1 := syncNames_inv' h.inv
  have h2 := syncNames_bd h.bd
  have hto : d.tick.off = false := tick_off h.po
  rw [syncNames_on h] at h1 h2 ⊢
  exact ⟨h1, h2, hto, h.po⟩
theorem On.allSafe {d : Dk} {B : Nat} (h : On d B) : On d.allSafe (B + 200) := by
  have hl := h.inv.ok.few
  obtain ⟨h1, _⟩ := On.syncAll d.namesOf h (fun n hn => by
    obtain ⟨⟨a, f⟩, hx, rfl⟩ := List.mem_map.1 hn
    exact ⟨f, (mem_aget h.inv.ok.sn a f).1 hx⟩)
  have h2 := h1.syncNames
  have hlen : d.namesOf.length = d.names.length := List.length_map ..
  exact ⟨h2.inv, h2.bd.mono (by omega), h2.off, h2.po⟩
set_option maxRecDepth 100000 in
set_option maxHeartbeats 4000000 in
theorem allSafe_walk (own : Own) (w : World) (kd : Nat) (blk : Nat → Nat) (d : Dk) (h : Rep own w kd blk d) (B : Nat) (hon : On d B) (hB : B ≤ 900000000) :
    Calls Try.prog 30 #[ptr kd] w fun e w' => e = .returned (.bool true) ∧ Left own w kd d.allSafe w' := by
  have hl64 := hon.inv.ok.few
  have HL := Lib.hid (list_on own w kd blk d h hon.inv.ok.sn (by omega) hon.off)
  have HN := Lib.hid (fun r w => num_walk r w)
  obtain ⟨ns, hns⟩ : ∃ ns, d.namesOf = ns := ⟨_, rfl⟩
  have hnl : ns.length = d.names.length := by rw [← hns]; exact List.length_map ..
  have hnn : ∀ n ∈ ns, (∃ f, aget d.names n = some f) ∧ n.size ≤ big := fun n hn => by
    rw [← hns] at hn
    obtain ⟨⟨a, f⟩, hx, rfl⟩ := List.mem_map.1 hn
    refine ⟨⟨f, (mem_aget hon.inv.ok.sn a f).1 hx⟩, ?_⟩
    have h8 := hon.inv.fa _ hx
    unfold fair at h8
    simp at h8
    show a.size ≤ big
    unfold big; omega
  have hst : ∀ i, i ≤ ns.length → On (d.syncAll (ns.take i)) (B + 200) ∧ (d.syncAll (ns.take i)).names = d.names := fun i hi => by
    obtain ⟨h1, h2⟩ := On.syncAll (ns.take i) hon (fun n hn => (hnn n (List.mem_of_mem_take hn)).1)
    exact ⟨⟨h1.inv, h1.bd.mono (by rw [List.length_take]; omega), h1.off, h1.po⟩, h2⟩
  have HNN := Lib.hid hnn
  have HST := Lib.hid hst
  have hn64 : ns.length ≤ 64 := by omega
  have hfin : d.allSafe = (d.syncAll ns).syncNames.1 := by unfold Dk.allSafe; rw [hns]
  have HFIN := Lib.hid hfin
  have HRH := Lib.hid h
  have hns' : d.names.map (·.1) = ns := hns
  rw [hns'] at HL
  clear h hon hl64 hns hns' hnl hnn hst hfin
  unfold ptr at HL ⊢
  go_enter Try.func30, Try.ntmps30
  go_wp2_with (first | (go_at_call 16; refine HL.out.mono ?_; rintro e w1 ⟨v4, rfl, hr4, hb1⟩; obtain ⟨A4, c4, rfl⟩ := Kd.R_slice hr4; have HR4 := Lib.hid hr4; have HB1 := Lib.hid hb1; clear hr4 hb1) | (go_at_call 13; refine (HN.out _ _).mono ?_; rintro e w1 ⟨rfl, rfl⟩))
  have hr1 := HRH.out.below HB1.out
  have hown : ∀ k, w.heap.size ≤ k → own k = none := fun k hk => by
    cases e : own k with
    | none => rfl
    | some x => have := HRH.out.lt k x e; omega
  have hkeep : ∀ (own' : Own) (W : World), Fr own own' w1 W → Kd.C Kd.string W A4 ns.length ns := fun own' W hf =>
    (Kd.R_reads' (Kd.R_step HR4.out (fun k hk hlt => hf.block k hlt (hown k hk)))).2.2
  have HKEEP := Lib.hid hkeep
  have HR1 := Lib.hid hr1
  clear hr1 hown hkeep
  go_loopw [5, 6] (fun v5 v6 wr => ∃ (i : Nat) (own1 : Own) (blk1 : Nat → Nat), i ≤ ns.length ∧ v5 = .bool true ∧ v6 = .int .i64 i ∧ Rep own1 wr kd blk1 (d.syncAll (ns.take i)) ∧ Fr own own1 w1 wr) (fun _ v6 _ => ns.length - (RowKit.intOf v6).toNat)
  case atStart => exact ⟨0, own, blk, Nat.zero_le _, rfl, rfl, HR1.out, Fr.refl _ _⟩
  case round =>
    obtain ⟨i, own1, blk1, hi, rfl, rfl, hr, hf⟩ := hrel
    obtain ⟨hon1, hnm1⟩ := HST.out i hi
    have HR := Lib.hid hr
    have HF := Lib.hid hf
    have HON := Lib.hid hon1
    by_cases hlt : i < ns.length
    · obtain ⟨ad, hA4, hcell⟩ := str_at (HKEEP.out own1 wr hf) i hlt
      subst hA4
      obtain ⟨⟨f, hg⟩, hsz⟩ := HNN.out ns[i] (List.getElem_mem _)
      rw [← hnm1] at hg
      have HS := Lib.hid (sync_walk own1 wr kd blk1 _ hr hon1.inv.ok (B + 200) hon1.bd (by omega) ns[i] hsz)
      rw [sync_on hon1 hg] at HS
      have hsu := syncAll_succ d ns i hlt
      rw [sync_on hon1 hg] at hsu
      have HSU := Lib.hid hsu
      unfold ptr at HS
      have qi0 : (0 : Int) ≤ (i : Int) := by omega
      have qi1 : (i : Int) < (ns.length : Int) := by omega
      clear hr hf hon1 hnm1 hg hsz hsu
      go_wp2_with (first | (go_at_call 50; refine HS.out.mono ?_; rintro e w3 ⟨rfl, own2, blk2, hr2, hf2⟩; have HR2 := Lib.hid hr2; have HF2 := Lib.hid hf2; clear hr2 hf2) | (go_at_call 13; refine (HN.out _ _).mono ?_; rintro e w3 ⟨rfl, rfl⟩))
      go_roundw
      case rel =>
        refine ⟨i + 1, own2, blk2, by omega, rfl, by go_num, ?_, HF.out.trans HF2.out⟩
        rw [HSU.out]; exact HR2.out
      case measure => simp [RowKit.intOf]; omega
    · have hib : i = ns.length := by omega
      rw [hib, List.take_length] at HR HON hr hon1
      have HS := Lib.hid (syncNames_walk own1 wr kd blk1 _ hr hon1.inv.ok.ss hon1.inv.ok.chs (Nat.le_trans hon1.bd.strokes (by omega)) (Nat.le_trans hon1.bd.count (by omega)) (Nat.le_trans hon1.bd.changes (by omega)))
      rw [syncNames_on hon1] at HS
      have hfin := HFIN.out
      rw [syncNames_on hon1] at hfin
      have HFIN2 := Lib.hid hfin
      unfold ptr at HS
      clear hr hf hon1 hnm1 hfin
      go_wp2_with (first | (go_at_call 51; refine HS.out.mono ?_; rintro e w3 ⟨rfl, own2, blk2, hr2, hf2⟩; have HR2 := Lib.hid hr2; have HF2 := Lib.hid hf2; clear hr2 hf2) | (go_at_call 13; refine (HN.out _ _).mono ?_; rintro e w3 ⟨rfl, rfl⟩))
      go_ret
      refine ⟨rfl, own2, blk2, ?_, (Fr.of_below HB1.out).trans (HF.out.trans HF2.out)⟩
      rw [HFIN2.out]; exact HR2.out
end Go.Proofs.Ytonecajkfbdnmaa.Dk

namespace Go.Proofs.Ytonecajkfbdnmaa.Dk
set_option linter.unusedVariables false
set_option linter.unusedSimpArgs false
set_option linter.unusedSectionVars false

theorem setFile_away (d : Dk) (f : Nat) (g : Fl → Fl) {k : Nat} (hk : k ≠ f) : (d.setFile f g).file k = d.file k := by
  unfold Dk.file Dk.setFile
  have e : ¬ f = k := fun e => hk e.symm
  simp [List.getD_eq_getElem?_getD, List.getElem?_modify, e]
/-! ### made safe -/
def Safe (d : Dk) (f : Nat) : Prop := (d.file f).units = [] ∧ (d.file f).kept = (d.file f).seen
theorem safe_all : ∀ (l : List ByteArray) {d : Dk} {B : Nat} (h : On d B), (∀ n ∈ l, ∃ f, aget d.names n = some f) → ∀ f, f < d.files.length → (Safe d f ∨ ∃ n ∈ l, aget d.names n = some f) → Safe (d.syncAll l) f := by
  intro l
  induction l with
  | nil =>
    intro d B h _ f _ hs
    rcases hs with hs | ⟨n, hn, _⟩
    · exact hs
    · cases hn
  | cons n l ih =>
    intro d B h hl f hf hs
    obtain ⟨g, hg⟩ := hl n (by simp)
    obtain ⟨h1, h2⟩ := h.sync hg
    have e : d.syncAll (n :: l) = (d.sync n).1.syncAll l := rfl
    rw [e]
    have e2 : (d.sync n).1 = d.tick.setFile g Dk.syncF := by rw [sync_on h hg]
    refine ih h1 (fun m hm => by rw [h2]; exact hl m (by simp [hm])) f (by rw [e2, setFile_len]; exact hf) ?_
    by_cases hfg : f = g
    · left
      unfold Safe
      rw [e2, hfg, setFile_self d.tick g Dk.syncF (by rw [← hfg]; exact hf)]
      exact ⟨rfl, rfl⟩
    · rcases hs with hs | ⟨m, hm, hmf⟩
      · left
        unfold Safe
        rw [e2, setFile_away _ _ _ hfg]
        exact hs
      · rcases List.mem_cons.1 hm with rfl | hm
        · rw [hg] at hmf; exact absurd (Option.some.inj hmf).symm hfg
        · right; exact ⟨m, hm, by rw [h2]; exact hmf⟩
/-- What lies ahead of a safe point s: appends alone. -/
structure Grow (s d : Dk) : Prop where
  sure : d.sure = s.names
  chs : ∀ c ∈ d.changes, ∃ n f, c = .makes n f ∧ s.files.length ≤ f
  len : s.files.length ≤ d.files.length
  old : ∀ x ∈ s.names, ∃ b : By, d.file x.2 = ⟨(s.file x.2).seen, b.map .add, (s.file x.2).seen ++ b⟩
  new : ∀ f, s.files.length ≤ f → f < d.files.length → ∃ b : By, d.file f = ⟨[], b.map .add, b⟩
theorem Grow.start {d : Dk} {B : Nat} (h : On d B) : Grow d.allSafe d.allSafe := by
  have hnm : ∀ n ∈ d.namesOf, ∃ f, aget d.names n = some f := fun n hn => by
    obtain ⟨⟨a, f⟩, hx, rfl⟩ := List.mem_map.1 hn
    exact ⟨f, (mem_aget h.inv.ok.sn a f).1 hx⟩
  obtain ⟨h1, h2⟩ := On.syncAll d.namesOf h hnm
  have hsl : (d.syncAll d.namesOf).files.length = d.files.length := by
    have : ∀ (l : List ByteArray) {d : Dk} {B : Nat}, On d B → (∀ n ∈ l, ∃ f, aget d.names n = some f) → (d.syncAll l).files.length = d.files.length := by
      intro l
      induction l with
      | nil => intro d B _ _; rfl
      | cons n l ih =>
        intro d B h hl
        obtain ⟨g, hg⟩ := hl n (by simp)
        obtain ⟨h1, h2⟩ := h.sync hg
        have e : d.syncAll (n :: l) = (d.sync n).1.syncAll l := rfl
        rw [e, ih h1 (fun m hm => by rw [h2]; exact hl m (by simp [hm])), sync_on h hg]
        exact setFile_len _ _ _
    exact this _ h hnm
  have e : d.allSafe = { (d.syncAll d.namesOf).tick with sure := chplay (d.syncAll d.namesOf).sure (d.syncAll d.namesOf).changes, changes := [] } := by
    unfold Dk.allSafe; rw [syncNames_on h1]
  have en : d.allSafe.names = d.names := by rw [e]; exact h2
  have ef : ∀ f, d.allSafe.file f = (d.syncAll d.namesOf).file f := fun f => by rw [e]; rfl
  refine ⟨?_, fun c hc => ?_, Nat.le_refl _, fun x hx => ⟨[], ?_⟩, fun f h1 h2 => absurd h2 (Nat.not_lt.2 h1)⟩
  · rw [en, ← h2, h1.inv.ok.play, e]
  · have : d.allSafe.changes = [] := by rw [e]
    rw [this] at hc; cases hc
  · rw [en] at hx
    have hs := safe_all d.namesOf h hnm x.2 (h.inv.ok.lt x hx) (.inr ⟨x.1, List.mem_map.2 ⟨x, hx, rfl⟩, (mem_aget h.inv.ok.sn x.1 x.2).1 hx⟩)
    unfold Safe at hs
    rw [← ef] at hs
    obtain ⟨hs1, hs2⟩ := hs
    rcases hX : d.allSafe.file x.2 with ⟨k, u, s⟩
    rw [hX] at hs1 hs2
    simp only at hs1 hs2
    simp [hs1, hs2]
theorem Grow.append {s d : Dk} (hs : s.Inv) (hd : d.Inv) (h : Grow s d) (n : ByteArray) (b : By) : Grow s (d.append n b).1 := by
  rcases append_cases d n b with ⟨e, _⟩ | ⟨_, _, _, _, e⟩ | ⟨_, ht, f, hg, e⟩ | ⟨_, hfa, ht, hg, hl, e⟩
  · rw [e]; exact h
  · rw [e]; exact ⟨h.sure, h.chs, h.len, h.old, h.new⟩
  · rw [e]
    show Grow s (d.tick.setFile f (Dk.give b))
    have hfl : f < d.files.length := find_lt hd hg
    refine ⟨h.sure, h.chs, by rw [setFile_len]; exact h.len, fun x hx => ?_, fun k h1 h2 => ?_⟩
    · obtain ⟨b0, h0⟩ := h.old x hx
      by_cases hk : x.2 = f
      · refine ⟨b0 ++ b, ?_⟩
        rw [hk, setFile_self d.tick f _ hfl]
        show Dk.give b (d.file f) = _
        rw [← hk, h0]
        simp [Dk.give]
      · exact ⟨b0, by rw [setFile_away _ _ _ hk]; exact h0⟩
    · rw [setFile_len] at h2
      obtain ⟨b0, h0⟩ := h.new k h1 h2
      by_cases hk : k = f
      · refine ⟨b0 ++ b, ?_⟩
        rw [hk, setFile_self d.tick f _ hfl]
        show Dk.give b (d.file f) = _
        rw [← hk, h0]
        simp [Dk.give]
      · exact ⟨b0, by rw [setFile_away _ _ _ hk]; exact h0⟩
  · rw [e]
    show Grow s ((d.mk1 n).setFile d.files.length (Dk.give b))
    have hl1 : (d.mk1 n).files.length = d.files.length + 1 := by simp [Dk.mk1, Dk.change, Dk.fresh, Dk.tick]
    have hfo : ∀ k, k < d.files.length → (d.mk1 n).file k = d.file k := fun k hk => fresh_file_old (d := d.tick) hk
    refine ⟨h.sure, fun c hc => ?_, by rw [setFile_len, hl1]; exact Nat.le_succ_of_le h.len, fun x hx => ?_, fun k h1 h2 => ?_⟩
    · have hc' : c ∈ d.changes ++ [.makes n d.files.length] := hc
      rcases List.mem_append.1 hc' with hc' | hc'
      · exact h.chs c hc'
      · exact ⟨n, _, List.mem_singleton.1 hc', h.len⟩
    · have hx2 := Nat.lt_of_lt_of_le (hs.ok.lt x hx) h.len
      rw [setFile_away _ _ _ (by omega), hfo _ hx2]
      exact h.old x hx
    · rw [setFile_len, hl1] at h2
      by_cases hk : k = d.files.length
      · refine ⟨b, ?_⟩
        rw [hk, setFile_self _ _ _ (by rw [hl1]; omega)]
        have : (d.mk1 n).file d.files.length = ⟨[], [], []⟩ := fresh_file (d := d.tick)
        rw [this]
        simp [Dk.give]
      · rw [setFile_away _ _ _ hk, hfo k (by omega)]
        exact h.new k h1 (by omega)
/-! ### names that only come -/
theorem makes_keep : ∀ (l : List Ch) (m : AM), (∀ c ∈ l, ∃ n f, c = .makes n f) → ChOk m l → ∀ n f, aget m n = some f → aget (chplay m l) n = some f
  | [], _, _, _, _, _, h => h
  | c :: l, m, hc, hok, n, f, h => by
    obtain ⟨n', f', rfl⟩ := hc c (by simp)
    have h1 : aget m n' = none := hok.1
    refine makes_keep l (aput m n' f') (fun c h => hc c (by simp [h])) hok.2 n f ?_
    rw [aget_put, if_neg (fun e => by rw [e, h] at h1; cases h1)]
    exact h
theorem makes_mem : ∀ (l : List Ch) (m : AM), (∀ c ∈ l, ∃ n f, c = .makes n f) → ∀ x ∈ chplay m l, x ∈ m ∨ .makes x.1 x.2 ∈ l
  | [], _, _, x, h => .inl h
  | c :: l, m, hc, x, h => by
    obtain ⟨n', f', rfl⟩ := hc c (by simp)
    rcases makes_mem l (aput m n' f') (fun c h => hc c (by simp [h])) x h with h | h
    · rcases mem_put h with rfl | h
      · right; simp
      · exact .inl h
    · right; simp [h]
theorem chok_cut {m : AM} {l : List Ch} (h : ChOk m l) (k : Nat) : ChOk m (l.take k) ∧ ChOk (chplay m (l.take k)) (l.drop k) := by
  have : ∀ (l l' : List Ch) (m : AM), ChOk m (l ++ l') → ChOk m l ∧ ChOk (chplay m l) l' := by
    intro l
    induction l with
    | nil => intro l' m h; exact ⟨trivial, h⟩
    | cons c l ih => intro l' m h; exact ⟨⟨h.1, (ih l' _ h.2).1⟩, (ih l' _ h.2).2⟩
  exact this _ _ m (by rw [List.take_append_drop]; exact h)
theorem chplay_take (m : AM) (l : List Ch) (k : Nat) : chplay (chplay m (l.take k)) (l.drop k) = chplay m l := by
  unfold chplay
  rw [← List.foldl_append, List.take_append_drop]
/-! ### crashes -/
theorem crash_find (d : Dk) : ∀ (m : AM) (r : List Int) (n : ByteArray) (f : Nat), aget m n = some f → ∃ k, imgFind (d.crashFiles m r) n = some (d.part f k)
  | [], _, _, _, h => by cases h
  | (a, g) :: m, r, n, f, h => by
    have e : aget ((a, g) :: m) n = if a = n then some g else aget m n := rfl
    rw [e] at h
    show ∃ k, (if a = n then some (d.part g (nextP r (d.file g).units.length).1) else imgFind (d.crashFiles m (nextP r (d.file g).units.length).2) n) = _
    by_cases ha : a = n
    · rw [if_pos ha] at h ⊢
      obtain rfl := Option.some.inj h
      exact ⟨_, rfl⟩
    · rw [if_neg ha] at h ⊢
      exact crash_find d m _ n f h
theorem crash_mem (d : Dk) : ∀ (m : AM) (r : List Int), ∀ y ∈ d.crashFiles m r, ∃ x ∈ m, ∃ k, y = (x.1, d.part x.2 k)
  | [], _, _, h => by cases h
  | (a, g) :: m, r, y, h => by
    have h' : y ∈ (a, d.part g (nextP r (d.file g).units.length).1) :: d.crashFiles m (nextP r (d.file g).units.length).2 := h
    rcases List.mem_cons.1 h' with rfl | h
    · exact ⟨(a, g), by simp, _, rfl⟩
    · obtain ⟨x, hx, k, e⟩ := crash_mem d m _ y h
      exact ⟨x, by simp [hx], k, e⟩
theorem crash_zero (d : Dk) : ∀ (m : AM), d.crashFiles m [] = m.map (fun x => (x.1, d.part x.2 0))
  | [] => rfl
  | (a, g) :: m => by
    show (a, d.part g 0) :: d.crashFiles m [] = _
    rw [crash_zero d m]; rfl
theorem nextP_all (N n : Nat) : nextP (List.replicate (N + 1) (-1)) n = (n, List.replicate N (-1)) := by
  show (((-1 : Int) % ((n : Int) + 1)).toNat, List.replicate N (-1)) = _
  have h1 : (-1 : Int) % ((n : Int) + 1) = (n : Int) := by
    have h := Int.add_emod_right (-1) ((n : Int) + 1)
    rw [← h]
    rw [show (-1 : Int) + ((n : Int) + 1) = (n : Int) by omega]
    exact Int.emod_eq_of_lt (by omega) (by omega)
  rw [h1]; rfl
theorem crash_ones (d : Dk) : ∀ (m : AM), d.crashFiles m (List.replicate m.length (-1)) = m.map (fun x => (x.1, d.part x.2 (d.file x.2).units.length))
  | [] => rfl
  | (a, g) :: m => by
    show (a, d.part g (nextP (List.replicate (m.length + 1) (-1)) (d.file g).units.length).1) :: d.crashFiles m (nextP (List.replicate (m.length + 1) (-1)) (d.file g).units.length).2 = _
    rw [nextP_all, crash_ones d m]; rfl
theorem part_add {d : Dk} {f : Nat} {kp b : By} (h : d.file f = ⟨kp, b.map .add, kp ++ b⟩) (k : Nat) : d.part f k = kp ++ b.take k := by
  unfold Dk.part
  rw [h]
  show unplay kp ((b.map .add).take k) = _
  rw [← List.map_take, adds_play]
theorem begins_app (a b : By) : beginsB (a ++ b) a = true := by unfold beginsB; simp
theorem begins_take (a b : By) (k : Nat) : beginsB (a ++ b) (a ++ b.take k) = true := by
  unfold beginsB
  have h := List.take_append_drop k b
  rw [decide_eq_true_iff]
  have e : a ++ b = (a ++ b.take k) ++ b.drop k := by rw [List.append_assoc, h]
  rw [e]
  exact List.take_left
section
variable {s d : Dk} (hs : s.Inv) (hd : d.Inv) (h : Grow s d)
include hs hd h
theorem Grow.file (k : Nat) {x : ByteArray × Nat} (hx : x ∈ chplay s.names (d.changes.take k)) : ∃ kp b : By, d.file x.2 = ⟨kp, b.map .add, kp ++ b⟩ := by
  rcases makes_mem _ _ (fun c hc => by obtain ⟨n, f, e, _⟩ := h.chs c (List.mem_of_mem_take hc); exact ⟨n, f, e⟩) x hx with hx | hx
  · obtain ⟨b, hb⟩ := h.old x hx
    exact ⟨_, b, hb⟩
  · have hm := List.mem_of_mem_take hx
    obtain ⟨n, f, e, hf⟩ := h.chs _ hm
    cases e
    obtain ⟨b, hb⟩ := h.new _ hf (hd.ok.ltc _ _ hm)
    exact ⟨[], b, hb⟩
theorem Grow.first (picks : List Int) : ∀ y ∈ s.image, ∃ b, imgFind (d.crash picks) y.1 = some b ∧ beginsB b y.2 = true := by
  intro y hy
  obtain ⟨x, hx, rfl⟩ := List.mem_map.1 hy
  have hg := (mem_aget hs.ok.sn x.1 x.2).1 hx
  have hc := hd.ok.chs
  rw [h.sure] at hc
  have hg2 := makes_keep (d.changes.take (nextP picks d.changes.length).1) s.names (fun c hc => by obtain ⟨n, f, e, _⟩ := h.chs c (List.mem_of_mem_take hc); exact ⟨n, f, e⟩) (chok_cut hc _).1 _ _ hg
  obtain ⟨k, hk⟩ := crash_find d _ (nextP picks d.changes.length).2 _ _ hg2
  refine ⟨_, by unfold Dk.crash; rw [h.sure]; exact hk, ?_⟩
  obtain ⟨b, hb⟩ := h.old x hx
  rw [part_add hb]
  exact begins_app _ _
theorem Grow.second (picks : List Int) : ∀ y ∈ d.crash picks, ∃ b, imgFind d.image y.1 = some b ∧ beginsB b y.2 = true := by
  intro y hy
  unfold Dk.crash at hy
  rw [h.sure] at hy
  obtain ⟨x, hx, k, rfl⟩ := crash_mem d _ _ y hy
  obtain ⟨kp, b, hf⟩ := h.file hs hd _ hx
  have hc := hd.ok.chs
  rw [h.sure] at hc
  have hp := hd.pre (nextP picks d.changes.length).1
  rw [h.sure] at hp
  have hg := (mem_aget hp.srt x.1 x.2).1 hx
  have hg2 := makes_keep (d.changes.drop (nextP picks d.changes.length).1) _ (fun c hc => by obtain ⟨n, f, e, _⟩ := h.chs c (List.mem_of_mem_drop hc); exact ⟨n, f, e⟩) (chok_cut hc _).2 _ _ hg
  rw [chplay_take] at hg2
  have hn := hd.ok.play
  rw [h.sure] at hn
  rw [← hn] at hg2
  rw [find_image, hg2]
  refine ⟨_, rfl, ?_⟩
  show beginsB (d.file x.2).seen (d.part x.2 k) = true
  rw [part_add hf, hf]
  exact begins_take _ _ _
theorem Grow.none_ : d.crash [] = s.image := by
  unfold Dk.crash
  show d.crashFiles (chplay d.sure (d.changes.take 0)) [] = _
  rw [h.sure, crash_zero]
  show s.names.map _ = s.names.map _
  refine List.map_congr_left (fun x hx => ?_)
  obtain ⟨b, hb⟩ := h.old x hx
  rw [part_add hb]
  simp
end
theorem crash_full {d : Dk} (hd : d.Inv) : d.crash (List.replicate (d.image.length + 1) (-1)) = d.image := by
  unfold Dk.crash
  rw [nextP_all]
  show d.crashFiles (chplay d.sure (d.changes.take d.changes.length)) (List.replicate d.image.length (-1)) = _
  rw [List.take_length, ← hd.ok.play]
  have hl : d.image.length = d.names.length := by unfold Dk.image; exact List.length_map ..
  rw [hl, crash_ones]
  show d.names.map _ = d.names.map _
  refine List.map_congr_left (fun x hx => ?_)
  have hf := hd.ok.fl _ (file_mem (hd.ok.lt x hx))
  unfold Dk.part
  rw [List.take_length, ← hf.2]
/-! ### at least one file -/
theorem SW_le (W : Nat → Nat) (B : Nat) : ∀ m : AM, (∀ x ∈ m, W x.2 ≤ B) → SW W m ≤ m.length * B
  | [], _ => by simp [SW]
  | x :: m, h => by
    have h1 := SW_le W B m (fun y hy => h y (by simp [hy]))
    have h2 := h x (by simp)
    rw [SW_cons, List.length_cons, Nat.add_mul]
    omega
theorem used_le {d : Dk} {B : Nat} (h : On d B) : d.used ≤ 64 * B := by
  have h1 := SW_le (fun f => (d.file f).seen.length) B d.names (fun x hx => h.bd.seen _ (h.inv.ok.lt x hx))
  have h2 := Nat.mul_le_mul_right B h.inv.ok.few
  exact Nat.le_trans h1 h2
theorem safe_there {d : Dk} {B : Nat} (h : On d B) (hp : d.plan.from_ ≤ 0) (hr : d.room = 67108864) (hB : 64 * B + 100 ≤ 67108864) {n : ByteArray} (hn : fair n = true) {b : By} (hb : b.length ≤ 100) : (d.append n b).1.names ≠ [] := by
  have hu := used_le h
  rcases find_cases d n with ⟨f, hf, hg, ho, hfa⟩ | ⟨hf, hg, ho, hfa⟩ | ⟨hf, ho, hx⟩ | ⟨hf, ho⟩
  · have h0 : d.names ≠ [] := fun e => by rw [e] at hg; cases hg
    rcases append_cases d n b with ⟨e, _⟩ | ⟨_, _, _, _, e⟩ | ⟨_, ht, f, hg3, e⟩ | ⟨_, hfa, ht, hg3, hl, e⟩
    · rw [e]; exact h0
    · rw [e]; exact h0
    · rw [e]; exact h0
    · rw [hg] at hg3; cases hg3
  · rcases append_cases d n b with ⟨e, e2⟩ | ⟨_, _, _, ht, e⟩ | ⟨_, ht, f, hg2, e⟩ | ⟨_, hfa, ht, hg, hl, e⟩
    · by_cases hl : d.names.length < 64
      · exfalso
        have hl2 : ¬ 64 ≤ d.names.length := by omega
        have e' : (d.append n b).2 ≠ 111 ∧ (d.append n b).2 ≠ 115 := by
          have hto := tick_off h.po
          unfold Dk.append; rw [hf]
          simp only [hl2]
          unfold Dk.told
          simp only [hto]
          by_cases hc : d.tick.planFull = true ∨ d.room - d.used < b.length <;> simp [hc]
        rcases e2 with e2 | e2
        · exact e'.1 e2
        · exact e'.2 e2
      · rw [e]
        intro e9; rw [e9] at hl; simp at hl
    · exfalso
      unfold Dk.tight at ht
      have hpf : d.tick.planFull = false := by
        unfold Dk.planFull
        have : ¬ 0 < d.tick.plan.from_ := by show ¬ 0 < d.plan.from_; omega
        simp [this]
      rw [hpf, Bool.false_or] at ht
      have h1 : d.room - d.used < b.length := by simpa [Dk.tick, Dk.used, Dk.file] using ht
      omega
    · rw [hg] at hg2; cases hg2
    · rw [e]
      show aput d.names n d.files.length ≠ []
      intro e9
      have := aget_put d.names n d.files.length n
      rw [e9, if_pos rfl] at this
      cases this
  · rw [hn] at hx; simp at hx
  · rw [h.off] at ho; cases ho
end Go.Proofs.Ytonecajkfbdnmaa.Dk

namespace Go.Proofs.Ytonecajkfbdnmaa.Dw
open Go.Lib Go.RowKit Go.Deep Go.Joins Go.ChangeShapes Go.WideShapes Go.Proofs.YtonecajkfbdnmaaW.PrintWords Go.Proofs.Ytonecajkfbdnmaa.PDiskRoom Go.Proofs.Ytonecajkfbdnmaa.Dk
set_option linter.unusedVariables false
set_option linter.unusedSimpArgs false
set_option maxRecDepth 100000

/-- What a step that comes in is within, before it is made short. -/
structure OpPre (o : S58) : Prop where
  bytes : ints (toBy o.f5) = o.f5
  name : o.f3.size ≤ big
  to_ : o.f4.size ≤ big
  n : -9223372036854775808 ≤ o.f2 ∧ o.f2 ≤ 9223372036854775807
theorem toBy_in {l : List Int} (h : ∀ x ∈ l, 0 ≤ x ∧ x ≤ 255) : ints (toBy l) = l := by
  unfold ints toBy
  rw [List.map_map]
  refine (List.map_congr_left (fun x hx => ?_)).trans (List.map_id _)
  obtain ⟨h1, h2⟩ := h x hx
  show ((UInt8.ofNat x.toNat).toNat : Int) = x
  rw [UInt8.toNat_ofNat']
  omega
section
variable {H : Type} {enc : TypeId × Value → H} {W : World}
theorem weights_mem_all {P : Program} {e : TypeId} : ∀ {ds : List (DataW H)} {d : DataW H}, d ∈ ds → ∀ n ∈ d.weights P e, n ∈ DataW.weightsAll P e ds
  | d0 :: ds, d, hd, n, hn => by
    simp only [DataW.weightsAll, List.mem_append]
    rcases List.mem_cons.1 hd with rfl | hd
    · exact .inl hn
    · exact .inr (weights_mem_all hd n hn)
/-- A row, opened: its elements by d; no more of them than what it weighs. -/
theorem open_row {α : Type} [Inhabited α] (N : Nat) (d : Kd α) (t e : TypeId) (ht : Try.prog.underlying t = some (.slice e)) (hsz : Try.prog.cellsOf e = d.sz) (hby : 1 ≤ Try.prog.bytesOf e) {sp : Nat → Bool} {b : Nat} {held : Bool} (Good : α → Prop)
    (each : ∀ n cs y, DataW.trod enc Try.prog W b sp held n e cs = some y → (∀ k ∈ y.1.weights Try.prog e, k ≤ N) → ∃ x, d.K W x cs ∧ Good x) {n : Nat} {v : Value} {y : DataW H × List MemPlace} (h : DataW.trod enc Try.prog W b sp held n t [v] = some y) (hw : ∀ k ∈ y.1.weights Try.prog t, k ≤ N) :
    ∃ (A : Option Addr) (l : List α) (c : Nat), v = .slice A l.length c ∧ l.length ≤ c ∧ Kd.C d W A l.length l ∧ l.length ≤ N ∧ ∀ x ∈ l, Good x := by
  rcases open_slice ht h with ⟨h0, rfl⟩ | ⟨a, len, cap, m, n', D, Pl, h0, _, hlc, hcm, hm, rfl, hel⟩
  · obtain rfl : v = .slice none 0 0 := by simpa using h0
    exact ⟨none, [], 0, rfl, Nat.le_refl _, Kd.C_nil _ _, Nat.zero_le _, fun u hu => by simp at hu⟩
  · obtain rfl : v = .slice (some a) len cap := by simpa using h0
    have hlm : len ≤ m := by rw [hm]; split <;> omega
    have hwe : ∀ i, i < len → ∀ k ∈ (D i).weights Try.prog e, k ≤ N := fun i hi k hk => hw k (by
      simp only [DataW.weights, ht, List.mem_cons, List.mem_append]
      exact .inr (.inl (weights_mem_all (List.mem_map_of_mem (List.mem_range.2 hi)) k hk)))
    have each2 : ∀ i, i < len → ∃ u : α, (∃ cs, W.cells? b (a.add (i * d.sz)) d.sz = some cs ∧ d.K W u cs) ∧ Good u := fun i hi => by
      obtain ⟨cs', h1, h2⟩ := hel i (by omega)
      rw [hsz] at h1
      obtain ⟨u, h3, h4⟩ := each _ _ _ h2 (hwe i hi)
      exact ⟨u, ⟨cs', h1, h3⟩, h4⟩
    obtain ⟨U, hU⟩ := choose_lt each2
    have hlen : ((List.range len).map U).length = len := by simp
    refine ⟨some a, (List.range len).map U, cap, by rw [hlen], by rw [hlen]; exact hlc, ⟨rfl, by rw [hlen]; unfold maxLen at hcm; omega, fun _ => ⟨a, rfl, fun j p hj => ?_⟩⟩, ?_, fun u hu => ?_⟩
    · rw [List.getElem?_map] at hj
      obtain ⟨i, hi, rfl⟩ := Option.map_eq_some_iff.1 hj
      obtain ⟨hjl, rfl⟩ := List.getElem?_eq_some_iff.1 hi
      rw [List.length_range] at hjl
      rw [List.getElem_range]
      obtain ⟨cs, h1, h2⟩ := (hU j hjl).1
      refine ⟨cs, d.K_len h2, h2, fun i u hu => ?_⟩
      obtain ⟨_, hl1, hcell⟩ := World.cells?_some h1
      have hi4 : i < d.sz := by
        have := (List.getElem?_eq_some_iff.1 hu).1
        rw [d.K_len h2] at this
        exact this
      have := hcell i hi4
      rw [hu] at this
      rw [← this]
      congr 1
      show a.add (j * d.sz + i) = (a.add (j * d.sz)).add i
      rw [Go.Deep.add_add]
    · rw [hlen]
      have h9 := hw ((((List.range len).map D).length + ((List.range (m - len)).map fun j => D (len + j)).length) * Try.prog.bytesOf e) (by simp [DataW.weights, ht])
      simp only [List.length_map, List.length_range] at h9
      have := Nat.le_mul_of_pos_right (len + (m - len)) hby
      omega
    · obtain ⟨i, hi, rfl⟩ := List.mem_map.1 hu
      exact (hU i (List.mem_range.1 hi)).2
theorem open_bytes (N : Nat) {sp : Nat → Bool} {b : Nat} {held : Bool} {n : Nat} {v : Value} {y : DataW H × List MemPlace} (h : DataW.trod enc Try.prog W b sp held n 26 [v] = some y) (hw : ∀ k ∈ y.1.weights Try.prog 26, k ≤ N) :
    ∃ (A : Option Addr) (l : List Int) (c : Nat), v = .slice A l.length c ∧ l.length ≤ c ∧ Kd.C kB W A l.length l ∧ l.length ≤ N ∧ ∀ x ∈ l, 0 ≤ x ∧ x ≤ 255 :=
  open_row (α := Int) N kB 26 5 Try.underlying26 (by kernel_rfl) (by decide +kernel) (fun x => 0 ≤ x ∧ x ≤ 255) (fun n cs y hy _ => by
    obtain ⟨x, rfl, rfl, hw⟩ := DataW.trod_int Try.underlying5 hy
    refine ⟨x, rfl, ?_⟩
    simp [Lit.wf, IntKind.min, IntKind.max, IntKind.signed, IntKind.bits] at hw
    omega) h hw
theorem open_picks (N : Nat) {sp : Nat → Bool} {b : Nat} {held : Bool} {n : Nat} {v : Value} {y : DataW H × List MemPlace} (h : DataW.trod enc Try.prog W b sp held n 23 [v] = some y) (hw : ∀ k ∈ y.1.weights Try.prog 23, k ≤ N) :
    ∃ (A : Option Addr) (l : List Int) (c : Nat), v = .slice A l.length c ∧ l.length ≤ c ∧ Kd.C (Kd.int .i64) W A l.length l ∧ l.length ≤ N ∧ ∀ x ∈ l, -9223372036854775808 ≤ x ∧ x ≤ 9223372036854775807 :=
  open_row (α := Int) N (Kd.int .i64) 23 3 Try.underlying23 (by kernel_rfl) (by decide +kernel) (fun x => -9223372036854775808 ≤ x ∧ x ≤ 9223372036854775807) (fun n cs y hy _ => by
    obtain ⟨x, rfl, rfl, hw⟩ := DataW.trod_int Try.underlying3 hy
    refine ⟨x, rfl, ?_⟩
    simp [Lit.wf, IntKind.min, IntKind.max, IntKind.signed, IntKind.bits] at hw
    omega) h hw
theorem open_plan {sp : Nat → Bool} {b : Nat} {held : Bool} {n : Nat} {cs : List Value} {y : DataW H × List MemPlace} (h : DataW.trod enc Try.prog W b sp held n 56 cs = some y) :
    ∃ p : S56, cs = [.int .i64 p.f0, .int .i64 p.f1, .int .i64 p.f2] := by
  obtain ⟨xs, m, _, rfl, hl, hlen, hf⟩ := DataW.trod_struct Try.underlying56 h
  have hc : cs.length = 3 := hl.trans (by kernel_rfl)
  match cs, hc, xs, hlen with
  | [c0, c1, c2], _, [y0, y1, y2], _ =>
    have k3 : Try.prog.cellsOf 3 = 1 := by kernel_rfl
    have h0 : DataW.trod enc Try.prog W b sp held m 3 [c0] = some y0 := by simpa [k3] using hf 0 _ rfl
    have h1 : DataW.trod enc Try.prog W b sp held m 3 [c1] = some y1 := by simpa [k3] using hf 1 _ rfl
    have h2 : DataW.trod enc Try.prog W b sp held m 3 [c2] = some y2 := by simpa [k3] using hf 2 _ rfl
    obtain ⟨a0, e0, rfl, _⟩ := DataW.trod_int Try.underlying3 h0
    obtain ⟨a1, e1, rfl, _⟩ := DataW.trod_int Try.underlying3 h1
    obtain ⟨a2, e2, rfl, _⟩ := DataW.trod_int Try.underlying3 h2
    simp only [List.cons.injEq, and_true] at e0 e1 e2
    subst e0 e1 e2
    exact ⟨⟨a0, a1, a2⟩, rfl⟩
theorem open_op (N : Nat) (hN : N ≤ big) {sp : Nat → Bool} {b : Nat} {held : Bool} {n : Nat} {cs : List Value} {y : DataW H × List MemPlace} (h : DataW.trod enc Try.prog W b sp held n 58 cs = some y) (hw : ∀ k ∈ y.1.weights Try.prog 58, k ≤ N) :
    ∃ o : S58, k58.K W o cs ∧ OpPre o := by
  obtain ⟨xs, m, _, rfl, hl, hlen, hf⟩ := DataW.trod_struct Try.underlying58 h
  have hc : cs.length = 10 := hl.trans (by kernel_rfl)
  match cs, hc, xs, hlen with
  | [c0, c1, c2, c3, c4, c5, c6, c7, c8, c9], _, [y0, y1, y2, y3, y4, y5, y6, y7], _ =>
    have k3 : Try.prog.cellsOf 3 = 1 := by kernel_rfl
    have k9 : Try.prog.cellsOf 9 = 1 := by kernel_rfl
    have k26 : Try.prog.cellsOf 26 = 1 := by kernel_rfl
    have k23 : Try.prog.cellsOf 23 = 1 := by kernel_rfl
    have k56 : Try.prog.cellsOf 56 = 3 := by kernel_rfl
    have h0 : DataW.trod enc Try.prog W b sp held m 3 [c0] = some y0 := by simpa [k3, k9, k26, k23, k56] using hf 0 _ rfl
    have h1 : DataW.trod enc Try.prog W b sp held m 3 [c1] = some y1 := by simpa [k3, k9, k26, k23, k56] using hf 1 _ rfl
    have h2 : DataW.trod enc Try.prog W b sp held m 3 [c2] = some y2 := by simpa [k3, k9, k26, k23, k56] using hf 2 _ rfl
    have h3 : DataW.trod enc Try.prog W b sp held m 9 [c3] = some y3 := by simpa [k3, k9, k26, k23, k56] using hf 3 _ rfl
    have h4 : DataW.trod enc Try.prog W b sp held m 9 [c4] = some y4 := by simpa [k3, k9, k26, k23, k56] using hf 4 _ rfl
    have h5 : DataW.trod enc Try.prog W b sp held m 26 [c5] = some y5 := by simpa [k3, k9, k26, k23, k56] using hf 5 _ rfl
    have h6 : DataW.trod enc Try.prog W b sp held m 56 [c6, c7, c8] = some y6 := by simpa [k3, k9, k26, k23, k56] using hf 6 _ rfl
    have h7 : DataW.trod enc Try.prog W b sp held m 23 [c9] = some y7 := by simpa [k3, k9, k26, k23, k56] using hf 7 _ rfl
    obtain ⟨a0, e0, rfl, _⟩ := DataW.trod_int Try.underlying3 h0
    obtain ⟨a1, e1, rfl, _⟩ := DataW.trod_int Try.underlying3 h1
    obtain ⟨a2, e2, rfl, w2⟩ := DataW.trod_int Try.underlying3 h2
    obtain ⟨s3, e3, rfl, _⟩ := DataW.trod_string Try.underlying9 h3
    obtain ⟨s4, e4, rfl, _⟩ := DataW.trod_string Try.underlying9 h4
    simp only [DataW.weights, Try.underlying58, DataW.weightsEach, List.map_cons, List.map_nil, List.mem_append, List.mem_cons] at hw
    obtain ⟨A5, l5, cc5, rfl, hl5, hC5, hb5, hr5⟩ := open_bytes N h5 (fun k hk => hw k (by simp [hk]))
    obtain ⟨p, e6⟩ := open_plan h6
    obtain ⟨A9, l9, cc9, rfl, hl9, hC9, hb9, hr9⟩ := open_picks N h7 (fun k hk => hw k (by simp [hk]))
    simp only [List.cons.injEq, and_true] at e0 e1 e2 e3 e4 e6
    obtain ⟨rfl, rfl, rfl⟩ := e6
    subst e0 e1 e2 e3 e4
    refine ⟨⟨a0, a1, a2, s3, s4, l5, p, l9⟩, k58_mk W ⟨a0, a1, a2, s3, s4, l5, p, l9⟩ hl5 hC5 hl9 hC9, toBy_in hr5, ?_, ?_, ?_⟩
    · have h8 := hw s3.data.toList.length (by simp)
      have : s3.size = s3.data.toList.length := by simp
      show s3.size ≤ _
      omega
    · have h8 := hw s4.data.toList.length (by simp)
      have : s4.size = s4.data.toList.length := by simp
      show s4.size ≤ _
      omega
    · simp [Lit.wf, IntKind.min, IntKind.max, IntKind.signed, IntKind.bits] at w2
      exact ⟨by show _ ≤ a2; omega, by show a2 ≤ _; omega⟩
instance inhS58 : Inhabited S58 := ⟨z58⟩
theorem open_ops (N : Nat) (hN : N ≤ big) {sp : Nat → Bool} {b : Nat} {held : Bool} {n : Nat} {v : Value} {y : DataW H × List MemPlace} (h : DataW.trod enc Try.prog W b sp held n 48 [v] = some y) (hw : ∀ k ∈ y.1.weights Try.prog 48, k ≤ N) :
    ∃ (A : Option Addr) (l : List S58) (c : Nat), v = .slice A l.length c ∧ l.length ≤ c ∧ Kd.C k58 W A l.length l ∧ l.length ≤ N ∧ ∀ o ∈ l, OpPre o :=
  open_row (α := S58) N k58 48 58 Try.underlying48 (by kernel_rfl) (by decide +kernel) OpPre (fun n cs y hy hw => open_op N hN hy hw) h hw
theorem array5 {α : Type} {cs : Array α} (h : cs.size = 5) : ∃ c0 c1 c2 c3 c4, cs = #[c0, c1, c2, c3, c4] := by
  obtain ⟨l⟩ := cs
  match l, h with
  | [c0, c1, c2, c3, c4], _ => exact ⟨c0, c1, c2, c3, c4, rfl⟩
/-- What comes in of a Power. -/
structure PowIn (N : Nat) (W : World) (v : Value) (A1 : Option Addr) (c1 : Nat) (l1 : List S58) (off : Int) (A2 : Option Addr) (c2 : Nat) (l2 : List Int) (A3 : Option Addr) (c3 : Nat) (l3 : List S58) (A4 : Option Addr) (c4 : Nat) (l4 : List Int) : Prop where
  v : v = .agg #[.slice A1 l1.length c1, .int .i64 off, .slice A2 l2.length c2, .slice A3 l3.length c3, .slice A4 l4.length c4]
  C1 : Kd.C k58 W A1 l1.length l1
  n1 : l1.length ≤ N
  o1 : ∀ o ∈ l1, OpPre o
  off : -9223372036854775808 ≤ off ∧ off ≤ 9223372036854775807
  C2 : Kd.C (Kd.int .i64) W A2 l2.length l2
  c2 : l2.length ≤ c2
  n2 : l2.length ≤ N
  p2 : ∀ x ∈ l2, -9223372036854775808 ≤ x ∧ x ≤ 9223372036854775807
  C3 : Kd.C k58 W A3 l3.length l3
  n3 : l3.length ≤ N
  o3 : ∀ o ∈ l3, OpPre o
  C4 : Kd.C (Kd.int .i64) W A4 l4.length l4
  c4 : l4.length ≤ c4
  n4 : l4.length ≤ N
  p4 : ∀ x ∈ l4, -9223372036854775808 ≤ x ∧ x ≤ 9223372036854775807
theorem open_power (N : Nat) (hN : N ≤ big) {r : Reach} {b0 b : Nat} {sp : Nat → Bool} {held : Bool} {v : Value} {d : DataW H} {p : List MemPlace} (hv : Value.okWide Try.prog W r b0 65 v) (h : DataW.Trod enc Try.prog W b sp held 65 v d p) (hw : ∀ k ∈ d.weights Try.prog 65, k ≤ N) :
    ∃ A1 c1 l1 off A2 c2 l2 A3 c3 l3 A4 c4 l4, PowIn N W v A1 c1 l1 off A2 c2 l2 A3 c3 l3 A4 c4 l4 := by
  obtain ⟨cs, rfl, hsz⟩ := okWide_struct Try.underlying65 hv
  obtain ⟨c0, c1, c2, c3, c4, rfl⟩ := array5 (hsz.trans (by kernel_rfl))
  obtain ⟨fuel, hfu⟩ := h
  obtain ⟨xs, m, _, hx, hl, hlen, hf⟩ := DataW.trod_struct Try.underlying65 hfu
  simp only [Prod.mk.injEq] at hx
  obtain ⟨rfl, _⟩ := hx
  match xs, hlen with
  | [y0, y1, y2, y3, y4], _ =>
    have k3 : Try.prog.cellsOf 3 = 1 := by kernel_rfl
    have k23 : Try.prog.cellsOf 23 = 1 := by kernel_rfl
    have k48 : Try.prog.cellsOf 48 = 1 := by kernel_rfl
    have h0 : DataW.trod enc Try.prog W b sp held m 48 [c0] = some y0 := by simpa [k3, k48, k23, Value.cells] using hf 0 _ rfl
    have h1 : DataW.trod enc Try.prog W b sp held m 3 [c1] = some y1 := by simpa [k3, k48, k23, Value.cells] using hf 1 _ rfl
    have h2 : DataW.trod enc Try.prog W b sp held m 23 [c2] = some y2 := by simpa [k3, k48, k23, Value.cells] using hf 2 _ rfl
    have h3 : DataW.trod enc Try.prog W b sp held m 48 [c3] = some y3 := by simpa [k3, k48, k23, Value.cells] using hf 3 _ rfl
    have h4 : DataW.trod enc Try.prog W b sp held m 23 [c4] = some y4 := by simpa [k3, k48, k23, Value.cells] using hf 4 _ rfl
    simp only [DataW.weights, Try.underlying65, DataW.weightsEach, List.map_cons, List.map_nil, List.mem_append, List.mem_cons] at hw
    obtain ⟨a1, e1, _, w1⟩ := DataW.trod_int Try.underlying3 h1
    simp only [List.cons.injEq, and_true] at e1
    subst e1
    obtain ⟨A1, l1, d1, rfl, _, C1, n1, o1⟩ := open_ops N hN h0 (fun k hk => hw k (by simp [hk]))
    obtain ⟨A2, l2, d2, rfl, g2, C2, n2, o2⟩ := open_picks N h2 (fun k hk => hw k (by simp [hk]))
    obtain ⟨A3, l3, d3, rfl, _, C3, n3, o3⟩ := open_ops N hN h3 (fun k hk => hw k (by simp [hk]))
    obtain ⟨A4, l4, d4, rfl, g4, C4, n4, o4⟩ := open_picks N h4 (fun k hk => hw k (by simp [hk]))
    simp [Lit.wf, IntKind.min, IntKind.max, IntKind.signed, IntKind.bits] at w1
    exact ⟨A1, d1, l1, a1, A2, d2, l2, A3, d3, l3, A4, d4, l4, rfl, C1, n1, o1, ⟨by omega, by omega⟩, C2, g2, n2, o2, C3, n3, o3, C4, g4, n4, o4⟩
end
end Go.Proofs.Ytonecajkfbdnmaa.Dw
