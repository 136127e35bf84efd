/- The walk of the law DiskLoaded. -/
import Derived.Test.YtonecajkfbdnmaaEn
import Derived.Test.YtonecajkfbdnmaaRows
import Derived.Lib.SmallJoins
import Derived.Deep.Slices
import Derived.Deep.Strs
import Derived.Deep.DeepHandedRow
import Derived.Deep.DeepWitnessRowRef
import Derived.ProofKit
import Derived.SizedLaws
import Derived.OpenShut
import Derived.Carry
namespace Go.Proofs.Ytonecajkfbdnmaa.Dk
open Go.Lib Go.RowKit Go.ChangeMaps Go.Proofs.Ytonecajkfbdnmaa.Mp Go.Proofs.YtonecajkfbdnmaaW.PrintWords Go.Proofs.YtonecajkfbdnmaaW.PrintLast Go.Proofs.YtonecajkfbdnmaaW.PrintMore Go.Proofs.Ytonecajkfbdnmaa.PDiskRoom Go.Proofs.Ytonecajkfbdnmaa.Dw
set_option linter.unusedVariables false
set_option linter.unusedSimpArgs false
theorem sumI_bd {I : Img} (hM : ∀ x ∈ I, x.2.length ≤ 1000000000) : ∀ i, i ≤ I.length → sumI I i ≤ i * 1000000000
  | 0, _ => by unfold sumI; simp
  | i + 1, h => by
    have h1 := sumI_succ I i h
    have h2 := sumI_bd hM i (by omega)
    have h3 := hM I[i] (List.getElem_mem h)
    omega
theorem LentI.reads {w : World} {I : Img} {bs : Nat → Nat × Nat} {lo g cm : Nat} (h : LentI w I bs lo g cm) (hl : I.length ≤ 1000000000) : Kd.C k28 w (some ⟨g, 0, none⟩) I.length (I.map encF) := by
  have hE : (els I bs I.length ++ [markEl]).length = I.length + 1 := by rw [List.length_append, els_len]; rfl
  refine ⟨List.length_map .., by omega, fun _ => ⟨_, rfl, fun j p hj => ?_⟩⟩
  have hj' : j < I.length := by
    have := (List.getElem?_eq_some_iff.1 hj).1
    rw [List.length_map] at this; exact this
  have hp : p = encF I[j] := by
    rw [List.getElem?_map, List.getElem?_eq_getElem hj'] at hj
    exact (Option.some.inj hj).symm
  have hEj : (els I bs I.length ++ [markEl])[j]? = some (el I bs j) := by
    rw [List.getElem?_append_left (by rw [els_len]; exact hj')]
    unfold els
    rw [List.getElem?_map, List.getElem?_range hj']; rfl
  obtain ⟨x0, x1⟩ := kS_at h.row hE j _ hEj
  unfold el at x0 x1
  rw [It_eq hj'] at x0 x1
  have hr := (h.all.lent j hj').row
  rw [It_eq hj', ints_length] at hr
  subst hp
  refine ⟨[.string I[j].1, .slice (some ⟨(bs j).1, 0, none⟩) I[j].2.length (bs j).2], rfl, ?_, fun t u hu => ?_⟩
  · have h9 := k28_mk w (encF I[j]) (A1 := some ⟨(bs j).1, 0, none⟩) (c1 := (bs j).2) (by show (ints I[j].2).length ≤ _; rw [ints_length]; exact hr.2) (by show Kd.C kB w _ (ints I[j].2).length (ints I[j].2); rw [ints_length]; exact hr.1)
    have e : (encF I[j]).f1.length = I[j].2.length := ints_length _
    rw [e] at h9
    exact h9
  · have e2 : (⟨g, 0, none⟩ : Addr).add (j * k28.sz + t) = ⟨g, j * 2 + t, none⟩ := by
      show (⟨g, 0, none⟩ : Addr).add (j * 2 + t) = _
      unfold Addr.add; simp; intro h1 h2; simp [h1, h2]
    rw [e2]
    match t, hu with
    | 0, hu => obtain rfl := Option.some.inj hu; exact x0
    | 1, hu => obtain rfl := Option.some.inj hu; exact x1
    | k + 2, hu => cases hu
theorem LentI.below {w w' : World} {I : Img} {bs : Nat → Nat × Nat} {lo g cm : Nat} (h : LentI w I bs lo g cm) (hb : Below w.heap.size w w') : LentI w' I bs lo g cm := ⟨Kd.R_below h.row hb, h.all.below hb, h.lo, h.ne⟩
theorem tab_get : ∀ (I : Img) (s i : Nat) (hi : i < I.length), (tab I s)[i]? = some (I[i].1, s + i)
  | x :: I, s, 0, _ => rfl
  | x :: I, s, i + 1, hi => by
    show (tab I (s + 1))[i]? = _
    rw [tab_get I (s + 1) i (by simpa using hi), show s + 1 + i = s + (i + 1) by omega]
    rfl
theorem tab_names : ∀ (I : Img) (s : Nat), (tab I s).map (·.1) = I.map (·.1)
  | [], _ => rfl
  | x :: I, s => by show x.1 :: (tab I (s + 1)).map (·.1) = x.1 :: I.map (·.1); rw [tab_names I]
theorem size_at {d : Dk} (hok : d.Ok) (hoff : d.off = false) (hfa : ∀ x ∈ d.names, fair x.1 = true) (x : ByteArray × Nat) (hx : x ∈ d.names) : d.size x.1 = ((d.file x.2).seen.length, 0) := by
  obtain ⟨n, f⟩ := x
  unfold Dk.size Dk.find
  rw [hoff]
  simp [hfa _ hx, (mem_aget hok.sn n f).1 hx]
def lentOwn (lo hi : Nat) : Own := fun k => if lo ≤ k ∧ k < hi then some .disk else none
theorem lentOwn_none {lo hi k : Nat} : lentOwn lo hi k = none ↔ ¬ (lo ≤ k ∧ k < hi) := by unfold lentOwn; split <;> simp_all
set_option maxRecDepth 100000 in
set_option maxHeartbeats 16000000 in
theorem diskLoaded_walk (w0 : World) (A1 : Option Addr) (c1 : Nat) (I : Img) (room : Int) (A2 : Option Addr) (c2 : Nat) (l2 : List Int)
    (hC1 : Kd.C k28 w0 A1 I.length (I.map encF)) (hl1 : I.length ≤ 1000000000) (hc1 : I.length ≤ c1) (hN : ∀ x ∈ I, x.1.size ≤ big) (hM : ∀ x ∈ I, x.2.length ≤ 1000000000)
    (hC2 : Kd.C (Kd.int .i64) w0 A2 l2.length l2) (hlc2 : l2.length ≤ c2) (hp2 : ∀ x ∈ l2, -9223372036854775808 ≤ x ∧ x ≤ 9223372036854775807) :
    Calls Try.prog 3 #[.agg #[.slice A1 I.length c1, .int .i64 room, .slice A2 l2.length c2]] w0 fun e w' => e = .returned (.bool true) ∧ Below w0.heap.size w0 w' := by
  have HC1 := Lib.hid hC1
  have HN := Lib.hid hN
  have HM := Lib.hid hM
  have HCR := Lib.hid (fun (own : Own) (w : World) (kd : Nat) (blk : Nat → Nat) (d : Dk) (h : Rep own w kd blk d) (B : Nat) (ho : On d B) (hB : B ≤ 1000000000) (hb : Below w0.heap.size w0 w) => crash_walk own w kd blk d h ho.inv B ho.bd hB w0 hb A2 c2 l2 hC2 hlc2 hp2)
  have HC1C := Lib.hid hc1
  have HSB := Lib.hid (sumI_bd hM)
  clear hC1 hN hM hC2 hlc2 hp2 hc1
  go_enter Try.func3, Try.ntmps3
  go_upto_region 1 with (fail)
  obtain ⟨wb, hwb⟩ : ∃ wb, w0.alloc (.cells #[.slice A1 I.length c1, .int .i64 room, .slice A2 l2.length c2] 25) = wb := ⟨_, rfl⟩
  obtain ⟨H0, hH0⟩ : ∃ H, w0.heap.size = H := ⟨_, rfl⟩
  have hbb : Below w0.heap.size w0 wb := hwb ▸ below_alloc (Below.refl _ _) _
  have hnb : wb.heap[H0]? = some (.cells #[.slice A1 I.length c1, .int .i64 room, .slice A2 l2.length c2] 25 (0, 0)) := by rw [← hwb, ← hH0]; exact blk_new w0 _
  rw [hwb, hH0]
  have HBB := Lib.hid hbb
  have HNB := Lib.hid hnb
  have HH0 := Lib.hid hH0
  have b1 := blk_cell hnb 1
  simp at b1
  clear hwb hbb hnb hH0
  obtain ⟨okr, hokr⟩ : ∃ okr : Bool, okr = true ↔ (0 ≤ room ∧ room ≤ 67108864) := ⟨decide (0 ≤ room ∧ room ≤ 67108864), by simp⟩
  have HOKR := Lib.hid hokr
  have r1 : ∀ q : Cls wb, q.at.cell? ⟨H0, 1, none⟩ = some (.int .i64 room) := fun q => q.cell b1
  clear hokr b1
  go_cut [3, 4] from 17 to 24 (fun v3 v4 wz => v3 = .int .i64 0 ∧ v4 = .bool okr ∧ Below wb.heap.size wb wz)
  case first =>
    by_cases p1 : 0 ≤ room
    · by_cases p2 : room ≤ 67108864
      · have HOK := Lib.hid (HOKR.out.2 ⟨p1, p2⟩)
        have q1 : decide (0 ≤ room) = true := by simpa using p1
        have q2 : decide (room ≤ 67108864) = true := by simpa using p2
        refine wp_region_cls (by kernel_rfl) (by kernel_rfl) ?_
        repeat (go_big_quiet_step (fail))
        refine wpQuiet_nil ?_
        rintro wy ⟨q, rfl⟩
        go_wp2_with fail
        go_meet
        case rel => exact ⟨rfl, by rw [HOK.out], q.below⟩
      · have HOK := Lib.hid (show okr = false from by
          cases h : okr with
          | false => rfl
          | true => exact absurd (HOKR.out.1 h).2 p2)
        have q1 : decide (0 ≤ room) = true := by simpa using p1
        have q2 : decide (room ≤ 67108864) = false := by simpa using p2
        refine wp_region_cls (by kernel_rfl) (by kernel_rfl) ?_
        repeat (go_big_quiet_step (fail))
        refine wpQuiet_nil ?_
        rintro wy ⟨q, rfl⟩
        go_wp2_with fail
        go_meet
        case rel => exact ⟨rfl, by rw [HOK.out], q.below⟩
    · have HOK := Lib.hid (show okr = false from by
        cases h : okr with
        | false => rfl
        | true => exact absurd (HOKR.out.1 h).1 p1)
      have q1 : decide (0 ≤ room) = false := by simpa using p1
      refine wp_region_cls (by kernel_rfl) (by kernel_rfl) ?_
      repeat (go_big_quiet_step (fail))
      refine wpQuiet_nil ?_
      rintro wy ⟨q, rfl⟩
      go_wp2_with fail
      go_meet
      case rel => exact ⟨rfl, by rw [HOK.out], q.below⟩
  case rest =>
    obtain ⟨rfl, rfl, hbz⟩ := hcut
    clear r1
    obtain ⟨wz, hwz⟩ : ∃ wz, wc = wz := ⟨_, rfl⟩
    rw [hwz] at hbz ⊢
    have HBZ := Lib.hid hbz
    clear hwz hbz
    obtain ⟨want, hwant⟩ : ∃ want : Int, want = if okr then 116 else 110 := ⟨_, rfl⟩
    have HWANT := Lib.hid hwant
    clear hwant
    go_upto_if 26 with (fail)
    go_cut [5] from 26 to 26 (fun v5 wx => v5 = .int .i64 want ∧ wx = wz)
    case first =>
      cases okr
      · go_wp2_with fail
        go_meet
        case rel => exact ⟨by rw [HWANT.out]; rfl, rfl⟩
      · go_wp2_with fail
        go_meet
        case rel => exact ⟨by rw [HWANT.out]; rfl, rfl⟩
    case rest =>
      obtain ⟨rfl, hwe⟩ := hcut
      have hwe' := hwe.symm
      clear hwe
      subst hwe'
      go_wp2_with fail
      go_loopw [3, 4, 6] (fun v3 v4 v6 wr => ∃ (i : Nat) (ok : Bool), i ≤ I.length ∧ v6 = .int .i64 i ∧ v3 = .int .i64 (sumI I i : Nat) ∧ v4 = .bool ok ∧ (ok = true ↔ okr = true ∧ Chain I i) ∧ Below wb.heap.size wb wr) (fun _ _ v6 _ => I.length - (RowKit.intOf v6).toNat)
      case atStart => exact ⟨0, okr, Nat.zero_le _, rfl, rfl, rfl, by simp [Chain.zero], HBZ.out⟩
      case round =>
        obtain ⟨i, ok, hi, rfl, rfl, rfl, hok, hb⟩ := hrel
        have HOK := Lib.hid hok
        have HB1 := Lib.hid hb
        have hb0 : Below w0.heap.size w0 wr := HBB.out.trans (hb.mono HBB.out.size)
        have n0 := blk_cell (blk_below HNB.out hb) 0
        simp at n0
        clear hok hb
        by_cases hlt : i < I.length
        · have qi0 : (0 : Int) ≤ (i : Int) := by omega
          have qi1 : (i : Int) < (I.length : Int) := by omega
          obtain ⟨ad, A1', c1', hA, g0, g1, g2, g3⟩ := img_at (Kd.C_below HC1.out hb0) i hlt
          subst hA
          have hnm := HN.out I[i] (List.getElem_mem hlt)
          have hsl := HM.out I[i] (List.getElem_mem hlt)
          have hs1 := HSB.out i (by omega)
          have hsucc := sumI_succ I i hlt
          have HSUCC := Lib.hid hsucc
          have HCH := Lib.hid (Chain.succ hlt)
          obtain ⟨prev, hprev⟩ : ∃ prev : ByteArray, ∀ j, (h : j + 1 = i) → (I[j]'(by omega)).1 = prev := by
            cases i with
            | zero => exact ⟨⟨#[]⟩, fun j h => by omega⟩
            | succ j => exact ⟨(I[j]'(by omega)).1, fun k h => by
                have e : k = j := by omega
                subst e
                rfl⟩
          have hpc : ∀ j, j + 1 = i → wr.cell? (ad.add (j * 2)) = some (.string prev) := fun j hj => by
            obtain ⟨ad2, _, _, hA2, h0, _⟩ := img_at (Kd.C_below HC1.out hb0) j (by omega)
            obtain rfl := Option.some.inj hA2
            rw [hprev j hj] at h0; exact h0
          have hch : (∀ k (h : k + 1 = i), bl (I[k]'(by omega)).1 < bl I[i].1) ↔ (0 < i → bl prev < bl I[i].1) := by
            constructor
            · intro h h0
              have h4 := h (i - 1) (by omega)
              rw [hprev (i - 1) (by omega)] at h4; exact h4
            · intro h k hk
              rw [hprev k hk]; exact h (by omega)
          rw [hch] at HCH
          obtain ⟨x, hx⟩ : ∃ x, I[i] = x := ⟨_, rfl⟩
          rw [hx] at g0 g1 g2 hnm hsl HCH HSUCC
          obtain ⟨nm, data⟩ := x
          simp only at g0 g1 g2 hnm hsl HCH HSUCC
          have HPC := Lib.hid hpc
          have HG0 := Lib.hid g0
          have hsumb : sumI I i ≤ 1000000000000000000 := by omega
          have HIN := Lib.hid (fun q : Cls wr => isname_walk nm q.at hnm)
          obtain ⟨S, hS⟩ : ∃ S, sumI I i = S := ⟨_, rfl⟩
          rw [hS] at hsumb HSUCC ⊢
          clear g3 hprev hpc hch hx hs1 hsucc hb0 hS hnm
          go_upto_region 9 with (fail)
          have HN0 := Lib.hid n0
          obtain ⟨ok2, hok2⟩ : ∃ ok2 : Bool, ok2 = true ↔ (ok = true ∧ fair nm = true ∧ (0 < i → bl prev < bl nm)) := by
            by_cases h : ok = true ∧ fair nm = true ∧ (0 < i → bl prev < bl nm)
            · exact ⟨true, iff_of_true rfl h⟩
            · exact ⟨false, iff_of_false (by simp) h⟩
          have HOK2 := Lib.hid hok2
          have hneg : ¬ (ok = true ∧ fair nm = true ∧ (0 < i → bl prev < bl nm)) → ok2 = false := fun h => by
            cases e : ok2 with
            | false => rfl
            | true => exact absurd (hok2.1 e) h
          have HNEG := Lib.hid hneg
          have hiw : i ≤ 1000000000 := by omega
          clear hok2 hneg
          have hok3 : ok2 = true ↔ okr = true ∧ Chain I (i + 1) := by
            rw [HOK2.out, HCH.out, HOK.out]
            constructor
            · rintro ⟨⟨h1, h2⟩, h3, h4⟩; exact ⟨h1, h2, h3, h4⟩
            · rintro ⟨h1, h2, h3, h4⟩; exact ⟨⟨h1, h2⟩, h3, h4⟩
          have HOK3 := Lib.hid hok3
          have HN1 := Lib.hid (show i + 1 ≤ I.length by omega)
          clear hok3
          have r0 : ∀ q : Cls wr, q.at.cell? ⟨H0, 0, none⟩ = some (.slice (some ad) I.length c1) := fun q => q.cell n0
          have r1 : ∀ q : Cls wr, q.at.cell? (ad.add (i * 2)) = some (.string nm) := fun q => q.cell g0
          clear n0 g0 g1 g2 hsl hsumb hi
          cases ok with
          | false =>
            have HB := Lib.hid (HNEG.out (fun h => by cases h.1))
            clear hiw
            refine wp_region_cls (by kernel_rfl) (by kernel_rfl) ?_
            repeat (go_big_quiet_step ((refine cls_call (HIN.out _))))
            refine wpQuiet_nil ?_
            rintro wy ⟨q, rfl⟩
            go_wp2_with fail
            go_roundw
            case rel => exact ⟨i + 1, ok2, HN1.out, by go_num, by rw [HSUCC.out]; go_num, by rw [HB.out], HOK3.out, HB1.out.trans (q.below.mono HB1.out.size)⟩
            case measure => simp [RowKit.intOf]; omega
          | true =>
            by_cases hf : fair nm = true
            · rw [hf] at HIN
              by_cases hi0 : i = 0
              · subst hi0
                have HB := Lib.hid (HOK2.out.2 ⟨rfl, hf, fun h => by omega⟩)
                have qz : (0 : Int) < (I.length : Int) := qi1
                have r1z : ∀ q : Cls wr, q.at.cell? ad = some (.string nm) := fun q => by
                  have h9 := r1 q
                  rw [Nat.zero_mul, show ad.add 0 = ad by unfold Addr.add; split <;> simp_all] at h9
                  exact h9
                clear hf hiw
                refine wp_region_cls (by kernel_rfl) (by kernel_rfl) ?_
                repeat (go_big_quiet_step ((refine cls_call (HIN.out _))))
                refine wpQuiet_nil ?_
                rintro wy ⟨q, rfl⟩
                go_wp2_with fail
                go_roundw
                case rel => exact ⟨0 + 1, ok2, HN1.out, by go_num, by rw [HSUCC.out]; go_num, by rw [HB.out], HOK3.out, HB1.out.trans (q.below.mono HB1.out.size)⟩
                case measure => simp [RowKit.intOf]; omega
              · obtain ⟨j, rfl⟩ : ∃ j, i = j + 1 := ⟨i - 1, by omega⟩
                have rp : ∀ q : Cls wr, q.at.cell? (ad.add (j * 2)) = some (.string prev) := fun q => q.cell (HPC.out j rfl)
                have qj0 : (0 : Int) ≤ (j : Int) := by omega
                have qj1 : (j : Int) < (I.length : Int) := by omega
                have hw1 : IntKind.i64.wrap ((j : Int) + 1 - 1) = (j : Int) := by rw [IntWalk.i64_in _ (by omega)]; omega
                have hw2 : IntKind.i64.wrap (j : Int) = (j : Int) := IntWalk.i64_in _ (by omega)
                have hne : ((j : Int) + 1 == 0) = false := by simp; omega
                by_cases hc : bl prev < bl nm
                · have hcm : Op.bytesLess prev.toList nm.toList = true := by rw [less_bl]; simpa using hc
                  have HB := Lib.hid (HOK2.out.2 ⟨rfl, hf, fun _ => hc⟩)
                  clear hf hiw hc hi0
                  refine wp_region_cls (by kernel_rfl) (by kernel_rfl) ?_
                  repeat (go_big_quiet_step ((refine cls_call (HIN.out _))))
                  refine wpQuiet_nil ?_
                  rintro wy ⟨q, rfl⟩
                  go_wp2_with fail
                  go_roundw
                  case rel => exact ⟨(j + 1) + 1, ok2, HN1.out, by go_num, by rw [HSUCC.out]; go_num, by rw [HB.out], HOK3.out, HB1.out.trans (q.below.mono HB1.out.size)⟩
                  case measure => simp [RowKit.intOf]; omega
                · have hcm : Op.bytesLess prev.toList nm.toList = false := by rw [less_bl]; simpa using hc
                  have HB := Lib.hid (HNEG.out (fun h => hc (h.2.2 (by omega))))
                  clear hf hiw hc hi0
                  refine wp_region_cls (by kernel_rfl) (by kernel_rfl) ?_
                  repeat (go_big_quiet_step ((refine cls_call (HIN.out _))))
                  refine wpQuiet_nil ?_
                  rintro wy ⟨q, rfl⟩
                  go_wp2_with fail
                  go_roundw
                  case rel => exact ⟨(j + 1) + 1, ok2, HN1.out, by go_num, by rw [HSUCC.out]; go_num, by rw [HB.out], HOK3.out, HB1.out.trans (q.below.mono HB1.out.size)⟩
                  case measure => simp [RowKit.intOf]; omega
            · have hf2 : fair nm = false := by simpa using hf
              have HB := Lib.hid (HNEG.out (fun h => hf h.2.1))
              rw [hf2] at HIN
              clear hf hf2 hiw
              refine wp_region_cls (by kernel_rfl) (by kernel_rfl) ?_
              repeat (go_big_quiet_step ((refine cls_call (HIN.out _))))
              refine wpQuiet_nil ?_
              rintro wy ⟨q, rfl⟩
              go_wp2_with fail
              go_roundw
              case rel => exact ⟨i + 1, ok2, HN1.out, by go_num, by rw [HSUCC.out]; go_num, by rw [HB.out], HOK3.out, HB1.out.trans (q.below.mono HB1.out.size)⟩
              case measure => simp [RowKit.intOf]; omega
        · have hiI : i = I.length := by omega
          subst hiI
          have qi1 : ¬ (I.length : Int) < (I.length : Int) := by omega
          obtain ⟨wl, hwl⟩ : ∃ wl : World, wl = wr := ⟨_, rfl⟩
          subst hwl
          have HB0L := Lib.hid hb0
          have n1 := blk_cell (blk_below HNB.out HB1.out) 1
          simp at n1
          have hs1 := HSB.out I.length (Nat.le_refl _)
          obtain ⟨S, hS⟩ : ∃ S, sumI I I.length = S := ⟨_, rfl⟩
          rw [hS]
          have HS := Lib.hid hS
          obtain ⟨okf, hokf⟩ : ∃ okf : Bool, okf = true ↔ (ok = true ∧ (S : Int) ≤ room ∧ I.length ≤ 64) := by
            by_cases h : ok = true ∧ (S : Int) ≤ room ∧ I.length ≤ 64
            · exact ⟨true, iff_of_true rfl h⟩
            · exact ⟨false, iff_of_false (by simp) h⟩
          have HOKF := Lib.hid hokf
          have hneg : ¬ (ok = true ∧ (S : Int) ≤ room ∧ I.length ≤ 64) → okf = false := fun h => by
            cases e : okf with
            | false => rfl
            | true => exact absurd (hokf.1 e) h
          have HNEG := Lib.hid hneg
          clear hokf hneg hS hs1 hb0
          go_upto_region 10 with (fail)
          clear qi1 hlt hi
          go_cut [4] from 73 to 85 (fun v4 wx => v4 = .bool okf ∧ wx = wl)
          case first =>
            cases ok with
            | false =>
              have HB := Lib.hid (HNEG.out (fun h => by cases h.1))
              go_wp2_with fail
              go_meet
              case rel => exact ⟨by rw [HB.out], rfl⟩
            | true =>
              by_cases p1 : (S : Int) ≤ room
              · by_cases p2 : I.length ≤ 64
                · have HB := Lib.hid (HOKF.out.2 ⟨rfl, p1, p2⟩)
                  have p3 : (I.length : Int) ≤ 64 := by omega
                  go_wp2_with fail
                  go_meet
                  case rel => exact ⟨by rw [HB.out], rfl⟩
                · have HB := Lib.hid (HNEG.out (fun h => p2 h.2.2))
                  have p3 : ¬ (I.length : Int) ≤ 64 := by omega
                  go_wp2_with fail
                  go_meet
                  case rel => exact ⟨by rw [HB.out], rfl⟩
              · have HB := Lib.hid (HNEG.out (fun h => p1 h.2.1))
                go_wp2_with fail
                go_meet
                case rel => exact ⟨by rw [HB.out], rfl⟩
          case rest =>
            obtain ⟨rfl, hwe⟩ := hcut
            have hwe' := hwe.symm
            clear hwe
            subst hwe'
            have HLI := Lib.hid (lentImage_walk I A1 c1 wl (Kd.C_below HC1.out HB0L.out) hl1 HM.out)
            go_upto_region 12 with (first | (go_at_call 10; refine HLI.out.mono ?_; rintro e w2 ⟨bs, g, cm, rfl, hli, hb2⟩; have HLT := Lib.hid hli; have HB2 := Lib.hid hb2; clear hli hb2))
            have n1 := pw_cell_below HB2.out n1
            have hb02 : Below w0.heap.size w0 w2 := HB0L.out.trans (HB2.out.mono HB0L.out.size)
            have HB02 := Lib.hid hb02
            have hg2 : g < w2.heap.size := (R_own_lt HLT.out.row g rfl).2.2
            have hob : ∀ k, lentOwn wl.heap.size w2.heap.size k = none → k ≠ g ∧ ∀ j, j < I.length → k ≠ (bs j).1 := fun k hk => ⟨fun e => lentOwn_none.1 hk ⟨by rw [e]; exact HLT.out.lo, by rw [e]; exact hg2⟩, fun j hj e => lentOwn_none.1 hk ⟨by rw [e]; exact HLT.out.all.lo j hj, by rw [e]; exact (HLT.out.all.lent j hj).lt⟩⟩
            have HIM := Lib.hid (fun W (hb : Below w2.heap.size w2 W) => intactImage_walk I bs wl.heap.size g cm A1 c1 w0 W (HLT.out.below hb) HC1.out HB0L.out.size (hb02.trans (hb.mono hb02.size)) hl1 HM.out (lentOwn wl.heap.size w2.heap.size) hob (fun k hk => lentOwn_none.2 (by omega)))
            have HFO := Lib.hid (fun W W' (hb : Below w0.heap.size w0 W) (hf : Fr (lentOwn wl.heap.size w2.heap.size) (lentOwn wl.heap.size w2.heap.size) W W') => hb.trans (hf.below hb.size (fun k hk => lentOwn_none.2 (fun h => by have := HB0L.out.size; omega))))
            have HNUM := Lib.hid (fun n W => num_walk n W)
            clear hb02 hg2 hob
            cases okr with
            | false =>
              have hroom : room < 0 ∨ 67108864 < room := by
                have h9 := HOKR.out
                simp at h9
                omega
              have HLB := Lib.hid (load_bad room hroom (.slice (some ⟨g, 0, none⟩) I.length cm) w2)
              have hf : okf = false := by
                cases e : okf with
                | false => rfl
                | true =>
                  have h1 := (HOKF.out.1 e).1
                  have h2 := (HOK.out.1 h1).1
                  cases h2
              subst hf
              have hw : want = 110 := HWANT.out
              subst hw
              clear hroom
              go_upto_region 13 with (first | (go_at_call 11; refine HLB.out.mono ?_; rintro e w3 ⟨rfl, rfl⟩))
              have n0' := pw_cell_below HB2.out n0
              go_wp2_with (first | (go_at_call 12; refine (HIM.out _ (Below.refl _ _)).mono ?_; rintro e w4 ⟨rfl, hf4⟩; have HF4 := Lib.hid hf4; clear hf4) | (go_at_call 13; refine (HNUM.out _ _).mono ?_; rintro e w5 ⟨rfl, rfl⟩))
              go_ret
              exact ⟨rfl, HFO.out _ _ HB02.out HF4.out⟩
            | true =>
              obtain ⟨h0, h1⟩ := HOKR.out.1 rfl
              obtain ⟨r, rfl⟩ : ∃ r : Nat, room = (r : Int) := ⟨room.toNat, by omega⟩
              have hr : r ≤ 67108864 := by omega
              have hiok : okf = true ↔ IOk r I := by
                rw [HOKF.out, HOK.out, iok_iff, HS.out]
                constructor
                · rintro ⟨⟨_, h2⟩, h3, h4⟩; exact ⟨h2, by omega, h4⟩
                · rintro ⟨h2, h3, h4⟩; exact ⟨⟨rfl, h2⟩, by omega, h4⟩
              have HIOK := Lib.hid hiok
              have HLD := Lib.hid (load_walk r hr I (some ⟨g, 0, none⟩) cm w2 (HLT.out.reads hl1) (Nat.le_trans hl1 (by omega)) HN.out (fun x hx => Nat.le_trans (HM.out x hx) (by omega)))
              clear hiok h0 h1
              cases okf with
              | false =>
                have hno : ¬ IOk r I := fun h => by
                  have := HIOK.out.2 h
                  cases this
                have HNO := Lib.hid hno
                have hw : want = 116 := HWANT.out
                subst hw
                clear hno
                go_upto_region 13 with (first | (go_at_call 11; refine HLD.out.mono ?_; rintro e w3 hends; obtain ⟨rfl, hb3⟩ := hends.2 HNO.out; have HB3 := Lib.hid hb3; clear hb3 hends))
                have n0' := pw_cell_below HB3.out (pw_cell_below HB2.out n0)
                go_wp2_with (first | (go_at_call 12; refine (HIM.out _ HB3.out).mono ?_; rintro e w4 ⟨rfl, hf4⟩; have HF4 := Lib.hid hf4; clear hf4) | (go_at_call 13; refine (HNUM.out _ _).mono ?_; rintro e w5 ⟨rfl, rfl⟩))
                go_ret
                exact ⟨rfl, HFO.out _ _ (HB02.out.trans (HB3.out.mono HB02.out.size)) HF4.out⟩
              | true =>
                have HI := Lib.hid (HIOK.out.1 rfl)
                go_upto_region 13 with (first | (go_at_call 11; refine HLD.out.mono ?_; rintro e w3 hends; obtain ⟨kd, own, blk, rfl, hr3, hb3, hn3⟩ := hends.1 HI.out; have HR3 := Lib.hid hr3; have HB3 := Lib.hid hb3; have HN3 := Lib.hid hn3; clear hr3 hb3 hn3 hends))
                unfold ptr
                have n0' := pw_cell_below HB3.out (pw_cell_below HB2.out n0)
                go_upto_region 17 with (first | (go_at_call 12; refine (HIM.out _ HB3.out).mono ?_; rintro e w4 ⟨rfl, hf4⟩; have HF4 := Lib.hid hf4; clear hf4))
                have hr4 : Rep own w4 kd blk (loadDk r I) := HR3.out.other HF4.out (fun k x hk => lentOwn_none.2 (fun h => by have := HN3.out k x hk; omega))
                have hb04 : Below w0.heap.size w0 w4 := HFO.out _ _ (HB02.out.trans (HB3.out.mono HB02.out.size)) HF4.out
                have hH : H0 < wl.heap.size := Nat.lt_of_lt_of_le (blk_lt HNB.out) HB1.out.size
                have hbox : w4.heap[H0]? = some (.cells #[.slice A1 I.length c1, .int .i64 (r : Int), .slice A2 l2.length c2] 25 (0, 0)) :=
                  (HF4.out.block H0 (Nat.lt_of_lt_of_le hH (Nat.le_trans HB2.out.size HB3.out.size)) (lentOwn_none.2 (fun h => by omega))).trans (blk_below (blk_below (blk_below HNB.out HB1.out) HB2.out) HB3.out)
                have hlen : ∀ x ∈ I, x.2.length ≤ 67108864 := fun x hx => by
                  obtain ⟨k, hk, rfl⟩ := List.getElem_of_mem hx
                  have h1 := sumI_succ I k hk
                  have h2 := sumI_le I (k + 1)
                  have h3 := HI.out.sum
                  omega
                have HLEN := Lib.hid hlen
                have hon : On (loadDk r I) 67108864 := loadDk_on HI.out hr hlen
                have HON := Lib.hid hon
                have HR4 := Lib.hid hr4
                have HB04 := Lib.hid hb04
                have HBOX := Lib.hid hbox
                have b0 := blk_cell hbox 0
                have b1 := blk_cell hbox 1
                simp at b0 b1
                have r1 : ∀ q : Cls w4, q.at.cell? ⟨H0, 1, none⟩ = some (.int .i64 (r : Int)) := fun q => q.cell b1
                have H13 := Lib.hid (fun q : Cls w4 => (show Calls Try.prog 13 #[.int .i64 0] q.at (fun e w' => e = .returned (.int .i64 0) ∧ Below q.at.heap.size q.at w') from (num_walk 0 q.at).mono (fun e w' ⟨h1, h2⟩ => ⟨h1, h2 ▸ Below.refl _ _⟩)))
                have H14 := Lib.hid (fun q : Cls w4 => (show Calls Try.prog 14 #[.pointer (some ⟨kd, 0, none⟩)] q.at (fun e w' => e = .returned (.int .i64 0) ∧ Below q.at.heap.size q.at w') from (strokes_walk (hr4.below q.below)).mono (fun e w' ⟨h1, h2⟩ => ⟨h1, h2 ▸ Below.refl _ _⟩)))
                have H15 := Lib.hid (fun q : Cls w4 => (show Calls Try.prog 15 #[.pointer (some ⟨kd, 0, none⟩)] q.at (fun e w' => e = .returned (.int .i64 (r : Int)) ∧ Below q.at.heap.size q.at w') from (room_walk (hr4.below q.below)).mono (fun e w' ⟨h1, h2⟩ => ⟨h1, h2 ▸ Below.refl _ _⟩)))
                clear hr4 hb04 hH hbox hlen hon b0 b1 n0' n0 n1
                go_cut [129] from 111 to 129 (fun v129 wx => v129 = .bool false ∧ Below w4.heap.size w4 wx)
                case first =>
                  refine wp_region_cls (by kernel_rfl) (by kernel_rfl) ?_
                  repeat (go_big_quiet_step ((first | (go_at_call 13; refine cls_call (H13.out _)) | (go_at_call 14; refine cls_call (H14.out _)) | (go_at_call 15; refine cls_call (H15.out _)) | (refine cls_call (H13.out _)))))
                  refine wpQuiet_nil ?_
                  rintro wy ⟨q, rfl⟩
                  go_wp2_with fail
                  go_meet
                  case rel => exact ⟨rfl, q.below⟩
                case rest =>
                  obtain ⟨rfl, hb5⟩ := hcut
                  obtain ⟨w5, hw5⟩ : ∃ w5, wc = w5 := ⟨_, rfl⟩
                  rw [hw5] at hb5 ⊢
                  have HB5 := Lib.hid hb5
                  clear hw5 hb5 r1
                  have HLS := Lib.hid (list_on own w5 kd blk (loadDk r I) (HR4.out.below HB5.out) HON.out.inv.ok.sn (Nat.le_trans HON.out.inv.ok.few (by omega)) HON.out.off)
                  unfold ptr at HLS
                  go_upto_region 20 with (first | (go_at_call 16; refine HLS.out.mono ?_; rintro e w6 ⟨v6, rfl, hr6, hb6⟩; obtain ⟨A6, c6, rfl⟩ := Kd.R_slice hr6; have HR6 := Lib.hid hr6; have HB6 := Lib.hid (HB5.out.trans (hb6.mono HB5.out.size)); clear hr6 hb6))
                  have hnl : ((loadDk r I).names.map (·.1)).length = I.length := by
                    rw [List.length_map]; exact tab_len I 0
                  have hcn : Kd.C Kd.string w6 A6 I.length ((loadDk r I).names.map (·.1)) := by
                    have h9 := (Kd.R_reads' HR6.out).2.2
                    rw [hnl] at h9; exact h9
                  have HCN := Lib.hid hcn
                  have HNL := Lib.hid hnl
                  have b0 := blk_cell (blk_below HBOX.out HB6.out) 0
                  simp at b0
                  rw [show (loadDk r I).names.length = I.length from tab_len I 0]
                  clear hcn hnl
                  go_upto_region 22 with (first | (go_at_call 13; refine (HNUM.out _ _).mono ?_; rintro e w7 ⟨rfl, rfl⟩))
                  obtain ⟨w6, hw6⟩ : ∃ w6 : World, w6 = w7 := ⟨_, rfl⟩
                  subst hw6
                  clear b0
                  go_wp2_with fail
                  go_loopw [12] (fun v12 wr => ∃ j : Nat, j ≤ I.length ∧ v12 = .int .i64 j ∧ Below w6.heap.size w6 wr) (fun v12 _ => I.length - (RowKit.intOf v12).toNat)
                  case atStart => exact ⟨0, Nat.zero_le _, rfl, Below.refl _ _⟩
                  case round =>
                    obtain ⟨j, hj, rfl, hb⟩ := hrel
                    have HBJ := Lib.hid hb
                    have HB4 := Lib.hid (HB6.out.trans (hb.mono HB6.out.size))
                    have HB00 := Lib.hid (HB04.out.trans (HB4.out.mono HB04.out.size))
                    have b0 := blk_cell (blk_below HBOX.out HB4.out) 0
                    simp at b0
                    by_cases hjt : j < I.length
                    · have qj0 : (0 : Int) ≤ (j : Int) := by omega
                      have qj1 : (j : Int) < (I.length : Int) := by omega
                      obtain ⟨ad2, hA6, hs0⟩ := str_at (by rw [HNL.out]; exact Kd.C_below HCN.out hb) j (by rw [HNL.out]; exact hjt)
                      subst hA6
                      obtain ⟨ad, A1', c1', hA1, g0, g1, g2, g3⟩ := img_at (Kd.C_below HC1.out HB00.out) j hjt
                      subst hA1
                      have hgn : (loadDk r I).names[j]? = some (I[j].1, j) := by
                        have h9 := tab_get I 0 j hjt
                        rw [Nat.zero_add] at h9; exact h9
                      have hmem : (I[j].1, j) ∈ (loadDk r I).names := List.mem_of_getElem? hgn
                      have hnj : ((loadDk r I).names.map (·.1))[j]'(by rw [HNL.out]; exact hjt) = I[j].1 := by
                        have h9 : ((loadDk r I).names.map (·.1))[j]? = some I[j].1 := by rw [List.getElem?_map, hgn]; rfl
                        rw [List.getElem?_eq_getElem (by rw [HNL.out]; exact hjt)] at h9
                        exact Option.some.inj h9
                      rw [hnj] at hs0
                      have hfile := loadDk_file r I j hjt
                      have hrd := read_at HON.out.inv.ok HON.out.off HON.out.inv.fa (I[j].1, j) hmem
                      have hsz := size_at HON.out.inv.ok HON.out.off HON.out.inv.fa (I[j].1, j) hmem
                      have hnm := HN.out I[j] (List.getElem_mem hjt)
                      have hdl := HLEN.out I[j] (List.getElem_mem hjt)
                      simp only [hfile] at hrd hsz
                      obtain ⟨x, hx⟩ : ∃ x, I[j] = x := ⟨_, rfl⟩
                      rw [hx] at hs0 g0 g1 g2 g3 hrd hsz hnm hdl
                      obtain ⟨nm, data⟩ := x
                      simp only at hs0 g0 g1 g2 g3 hrd hsz hnm hdl
                      have HRD := Lib.hid (show Calls Try.prog 17 #[.pointer (some ⟨kd, 0, none⟩), .string nm] wr (fun e w' => ∃ A c, e = .returned (.tuple #[.slice A data.length c, .int .i64 0]) ∧ data.length ≤ c ∧ Kd.C kB w' A data.length (ints data) ∧ Below wr.heap.size wr w') from by
                        have h9 := read_walk own wr kd blk (loadDk r I) (HR4.out.below HB4.out) HON.out.inv.ok.lt HON.out.inv.ok.sn (fun f hf => Nat.le_trans (HON.out.bd.seen f hf) (by omega)) nm hnm
                        rw [hrd] at h9
                        refine h9.mono ?_
                        rintro e w' ⟨v, rfl, hr, hb⟩
                        obtain ⟨A, c, rfl, h1, h2⟩ := R_sliceI hr
                        exact ⟨A, c, rfl, h1, h2, hb⟩)
                      have HSZ := Lib.hid (fun W (hb : Below wr.heap.size wr W) => show Calls Try.prog 18 #[.pointer (some ⟨kd, 0, none⟩), .string nm] W (fun e w' => e = .returned (.tuple #[.int .i64 (data.length : Int), .int .i64 0]) ∧ Below W.heap.size W w') from by
                        have h9 := size_walk own W kd blk (loadDk r I) ((HR4.out.below HB4.out).below hb) HON.out.inv.ok.lt HON.out.inv.ok.sn nm hnm
                        rw [hsz] at h9
                        refine h9.mono ?_
                        rintro e w' ⟨h1, m, h2⟩
                        exact ⟨h1, h2 ▸ below_drewN' _ m⟩)
                      have HG3 := Lib.hid g3
                      have HG2 := Lib.hid g2
                      have HDL := Lib.hid hdl
                      clear hb hgn hmem hnj hfile hrd hsz hnm hx g3 hdl g2
                      go_upto_region 26 with (first | (go_at_call 17; refine HRD.out.mono ?_; rintro e w8 ⟨A8, c8, rfl, hl8, hc8, hb8⟩; have HL8 := Lib.hid hl8; have HC8 := Lib.hid hc8; have HB8 := Lib.hid hb8; have s8 := pw_cell_below hb8 hs0; clear hl8 hc8 hb8))
                      go_upto_region 27 with (first | (go_at_call 18; refine (HSZ.out _ HB8.out).mono ?_; rintro e w9 ⟨rfl, hb9⟩; have HB9 := Lib.hid hb9; have HB89 := Lib.hid (HB8.out.trans (hb9.mono HB8.out.size)); clear hb9))
                      have k0 : ∀ q : Cls w9, q.at.cell? (ad2.add j) = some (.string nm) := fun q => q.cell (pw_cell_below HB89.out hs0)
                      have k1 : ∀ q : Cls w9, q.at.cell? ⟨H0, 0, none⟩ = some (.slice (some ad) I.length c1) := fun q => q.cell (pw_cell_below HB89.out b0)
                      have k2 : ∀ q : Cls w9, q.at.cell? (ad.add (j * 2)) = some (.string nm) := fun q => q.cell (pw_cell_below HB89.out g0)
                      have k3 : ∀ q : Cls w9, q.at.cell? ⟨(ad.add (j * 2)).block, (ad.add (j * 2)).off + 1, none⟩ = some (.slice A1' data.length c1') := fun q => q.cell (pw_cell_below HB89.out g1)
                      have H13' := Lib.hid (fun q : Cls w9 => (show Calls Try.prog 13 #[.int .i64 0] q.at (fun e w' => e = .returned (.int .i64 0) ∧ Below q.at.heap.size q.at w') from (num_walk 0 q.at).mono (fun e w' ⟨h1, h2⟩ => ⟨h1, h2 ▸ Below.refl _ _⟩)))
                      have HEQ := Lib.hid (fun q : Cls w9 => (show Calls Try.prog 19 #[.slice A8 data.length c8, .slice A1' data.length c1'] q.at (fun e w' => e = .returned (.bool true) ∧ Below q.at.heap.size q.at w') from by
                        have hil := ints_length data
                        have h9 := eq_walk data data A8 A1' c8 c1' q.at (Kd.C_below (Kd.C_below HC8.out HB9.out) q.below) HL8.out (Kd.C_below (by have h8 := HG3.out; rw [hil] at h8; exact Kd.C_below h8 HB89.out) q.below) HG2.out (Nat.le_trans HDL.out (by omega))
                        refine h9.mono ?_
                        rintro e w' ⟨h1, m, h2⟩
                        exact ⟨by rw [h1]; simp, h2 ▸ below_drewN' _ m⟩))
                      have HJ1 := Lib.hid (show j + 1 ≤ I.length by omega)
                      clear hs0 s8 b0 g0 g1
                      go_cut [207] from 170 to 207 (fun v207 wx => v207 = .bool false ∧ Below w9.heap.size w9 wx)
                      case first =>
                        refine wp_region_cls (by kernel_rfl) (by kernel_rfl) ?_
                        repeat (go_big_quiet_step ((first | (go_at_call 13; refine cls_call (H13'.out _)) | (go_at_call 19; refine cls_call (HEQ.out _)))))
                        refine wpQuiet_nil ?_
                        rintro wy ⟨q, rfl⟩
                        go_wp2_with fail
                        go_meet
                        case rel => exact ⟨rfl, q.below⟩
                      case rest =>
                        obtain ⟨rfl, hb10⟩ := hcut
                        clear k0 k1 k2 k3
                        go_wp2_with fail
                        go_roundw
                        case rel => exact ⟨j + 1, HJ1.out, by go_num, HBJ.out.trans ((HB89.out.trans (hb10.mono HB89.out.size)).mono HBJ.out.size)⟩
                        case measure => simp [RowKit.intOf]; omega
                    · have qj1 : ¬ (j : Int) < (I.length : Int) := by omega
                      obtain ⟨wy, hwy⟩ : ∃ wy : World, wy = wr := ⟨_, rfl⟩
                      subst hwy
                      have HCA := Lib.hid (fun W (hb : Below wy.heap.size wy W) => show Calls Try.prog 21 #[.pointer (some ⟨kd, 0, none⟩), .slice A2 l2.length c2] W (Rows I W) from rows_of (loadDk_crash _ _ _) (HCR.out own W kd blk _ ((HR4.out.below HB4.out).below hb) _ HON.out (by omega) (HB00.out.trans (hb.mono HB00.out.size))))
                      have HC0 := Lib.hid (fun W (hb : Below wy.heap.size wy W) => show Calls Try.prog 21 #[.pointer (some ⟨kd, 0, none⟩), .slice none 0 0] W (Rows I W) from rows_of (loadDk_crash _ _ []) (crash_walk own W kd blk _ ((HR4.out.below HB4.out).below hb) HON.out.inv _ HON.out.bd (by omega) W (Below.refl _ _) none 0 [] (Kd.C_nil _ _) (Nat.le_refl _) (by simp)))
                      have HFI := Lib.hid (fun W (hb : Below wy.heap.size wy W) => (⟨Kd.C_below HC1.out (HB00.out.trans (hb.mono HB00.out.size)), HC1C.out⟩ : Kd.C k28 W A1 I.length (I.map encF) ∧ I.length ≤ c1))
                      have HIMI := Lib.hid (fun W A c (ra : Kd.C k28 W A I.length (I.map encF) ∧ I.length ≤ c) (hb : Below wy.heap.size wy W) => show Calls Try.prog 20 #[.slice A I.length c, .slice A1 I.length c1] W (fun e w' => e = .returned (.bool true) ∧ Below W.heap.size W w') from image_same I A A1 c c1 W ra (HFI.out W hb) hl1 HM.out)
                      have b0 := blk_cell (blk_below HBOX.out HB4.out) 0
                      have b2 := blk_cell (blk_below HBOX.out HB4.out) 2
                      simp at b0 b2
                      have hdy : Below wy.heap.size wy wy.drew := below_drewN' wy 1
                      have HSY := Lib.hid (⟨pw_cell_below hdy b0, pw_cell_below hdy b2, hdy⟩ : wy.drew.cell? ⟨H0, 0, none⟩ = some (.slice A1 I.length c1) ∧ wy.drew.cell? ⟨H0, 2, none⟩ = some (.slice A2 l2.length c2) ∧ Below wy.heap.size wy wy.drew)
                      have HKY := Lib.hid (fun W W' (hs : W.cell? ⟨H0, 0, none⟩ = some (.slice A1 I.length c1) ∧ W.cell? ⟨H0, 2, none⟩ = some (.slice A2 l2.length c2) ∧ Below wy.heap.size wy W) (hb : Below W.heap.size W W') => (⟨pw_cell_below hb hs.1, pw_cell_below hb hs.2.1, hs.2.2.trans (hb.mono hs.2.2.size)⟩ : W'.cell? ⟨H0, 0, none⟩ = some (.slice A1 I.length c1) ∧ W'.cell? ⟨H0, 2, none⟩ = some (.slice A2 l2.length c2) ∧ Below wy.heap.size wy W'))
                      clear hb hjt hj hdy b0 b2
                      go_upto_region 29 with (fail)
                      clear qj1
                      go_region_held3 (fun w' => w'.cell? ⟨H0, 0, none⟩ = some (.slice A1 I.length c1) ∧ w'.cell? ⟨H0, 2, none⟩ = some (.slice A2 l2.length c2) ∧ Below wy.heap.size wy w')
                        (first | assumption | exact HSY.out | exact HKY.out _ _ (by assumption) (by assumption))
                        (first | (have hmark := HMark; go_at_call 21; refine (HC0.out _ ?hbel).mono ?_; (case hbel => exact And.right (And.right (by assumption))); rintro e wx ⟨Ax, cx, rfl, hrow, hbx⟩) | (go_at_call 21; refine (HCA.out _ ?hbel).mono ?_; (case hbel => exact And.right (And.right (by assumption))); rintro e wx ⟨Ax, cx, rfl, hrow, hbx⟩; have HMark := Lib.hid hbx) | (go_at_call 20; refine (HIMI.out _ _ _ ?ra ?hbel).mono ?_; (case ra => (first | assumption | exact img_keep (by assumption) (by assumption))); (case hbel => exact And.right (And.right (by assumption))); rintro e wx ⟨rfl, hbx⟩))
                      all_goals
                        rename_i hS
                        go_wp2_with fail
                        go_ret
                        exact ⟨rfl, HB00.out.trans (hS.2.2.mono HB00.out.size)⟩
end Go.Proofs.Ytonecajkfbdnmaa.Dk

namespace Go.Proofs.Ytonecajkfbdnmaa.Li
open Go.Lib Go.RowKit Go.Deep Go.Joins Go.ChangeShapes Go.WideShapes Go.Proofs.YtonecajkfbdnmaaW.PrintWords Go.Proofs.Ytonecajkfbdnmaa.PDiskRoom Go.Proofs.Ytonecajkfbdnmaa.Dk
set_option linter.unusedVariables false
set_option linter.unusedSimpArgs false
set_option maxRecDepth 100000

section
variable {H : Type} {enc : TypeId × Value → H} {W : World}
theorem bulk_pos : ∀ d : DataW H, 1 ≤ Rows.uptoBulk d
  | .lit (.string b) => by simp [Rows.uptoBulk]
  | .lit (.bool b) => by simp [Rows.uptoBulk]
  | .lit (.int k n) => by simp [Rows.uptoBulk]
  | .lit (.float k n) => by simp [Rows.uptoBulk]
  | .lit .nil => by simp [Rows.uptoBulk]
  | .nil => by simp [Rows.uptoBulk]
  | .ptr d => by simp [Rows.uptoBulk]
  | .slice a b => by simp [Rows.uptoBulk]
  | .agg p => by simp [Rows.uptoBulk]
  | .iface _ d => by simp [Rows.uptoBulk]
  | .map es => by simp [Rows.uptoBulk]
  | .held _ => by simp [Rows.uptoBulk]
theorem bulk_mem : ∀ {ds : List (DataW H)} {d : DataW H}, d ∈ ds → Rows.uptoBulk d ≤ Rows.uptoBulkAll ds
  | a :: r, d, h => by
    rcases List.mem_cons.1 h with rfl | h
    · simp [Rows.uptoBulkAll]
    · have := bulk_mem h
      simp only [Rows.uptoBulkAll]; omega
theorem bulk_len : ∀ (ds : List (DataW H)), ds.length ≤ Rows.uptoBulkAll ds
  | [] => by simp
  | a :: r => by
    have := bulk_len r
    have := bulk_pos a
    simp only [Rows.uptoBulkAll, List.length_cons]; omega
/-- A row, opened: its elements by d. -/
theorem open_row {α : Type} [Inhabited α] (d : Kd α) (t e : TypeId) (ht : Try.prog.underlying t = some (.slice e)) (hsz : Try.prog.cellsOf e = d.sz) {sp : Nat → Bool} {b : Nat} {held : Bool} (Good : DataW H → α → Prop)
    (each : ∀ n cs y, DataW.trod enc Try.prog W b sp held n e cs = some y → ∃ x, d.K W x cs ∧ Good y.1 x) {n : Nat} {v : Value} {y : DataW H × List MemPlace} (h : DataW.trod enc Try.prog W b sp held n t [v] = some y) :
    ∃ (A : Option Addr) (l : List α) (c : Nat), v = .slice A l.length c ∧ l.length ≤ c ∧ Kd.C d W A l.length l ∧ l.length ≤ Rows.uptoBulk y.1 ∧ ∀ x ∈ l, ∃ D, Good D x ∧ Rows.uptoBulk D ≤ Rows.uptoBulk y.1 := by
  rcases open_slice ht h with ⟨h0, rfl⟩ | ⟨a, len, cap, m, n', D, Pl, h0, _, hlc, hcm, hm, rfl, hel⟩
  · obtain rfl : v = .slice none 0 0 := by simpa using h0
    exact ⟨none, [], 0, rfl, Nat.le_refl _, Kd.C_nil _ _, Nat.zero_le _, fun u hu => by simp at hu⟩
  · obtain rfl : v = .slice (some a) len cap := by simpa using h0
    have hlm : len ≤ m := by rw [hm]; split <;> omega
    have each2 : ∀ i, i < len → ∃ u : α, (∃ cs, W.cells? b (a.add (i * d.sz)) d.sz = some cs ∧ d.K W u cs) ∧ Good (D i) u := fun i hi => by
      obtain ⟨cs', h1, h2⟩ := hel i (by omega)
      rw [hsz] at h1
      obtain ⟨u, h3, h4⟩ := each _ _ _ h2
      exact ⟨u, ⟨cs', h1, h3⟩, h4⟩
    obtain ⟨U, hU⟩ := choose_lt each2
    have hlen : ((List.range len).map U).length = len := by simp
    refine ⟨some a, (List.range len).map U, cap, by rw [hlen], by rw [hlen]; exact hlc, ⟨rfl, by rw [hlen]; unfold maxLen at hcm; omega, fun _ => ⟨a, rfl, fun j p hj => ?_⟩⟩, ?_, fun u hu => ?_⟩
    · rw [List.getElem?_map] at hj
      obtain ⟨i, hi, rfl⟩ := Option.map_eq_some_iff.1 hj
      obtain ⟨hjl, rfl⟩ := List.getElem?_eq_some_iff.1 hi
      rw [List.length_range] at hjl
      rw [List.getElem_range]
      obtain ⟨cs, h1, h2⟩ := (hU j hjl).1
      refine ⟨cs, d.K_len h2, h2, fun i u hu => ?_⟩
      obtain ⟨_, hl1, hcell⟩ := World.cells?_some h1
      have hi4 : i < d.sz := by
        have := (List.getElem?_eq_some_iff.1 hu).1
        rw [d.K_len h2] at this
        exact this
      have := hcell i hi4
      rw [hu] at this
      rw [← this]
      congr 1
      show a.add (j * d.sz + i) = (a.add (j * d.sz)).add i
      rw [Go.Deep.add_add]
    · rw [hlen]
      have := bulk_len ((List.range len).map D)
      simp only [Rows.uptoBulk]
      simp at this
      omega
    · obtain ⟨i, hi, rfl⟩ := List.mem_map.1 hu
      have hi := List.mem_range.1 hi
      refine ⟨D i, (hU i hi).2, ?_⟩
      have := bulk_mem (ds := (List.range len).map D) (List.mem_map_of_mem (List.mem_range.2 hi))
      simp only [Rows.uptoBulk]
      omega
theorem open_bytes {sp : Nat → Bool} {b : Nat} {held : Bool} {n : Nat} {v : Value} {y : DataW H × List MemPlace} (h : DataW.trod enc Try.prog W b sp held n 26 [v] = some y) :
    ∃ (A : Option Addr) (l : List Int) (c : Nat), v = .slice A l.length c ∧ l.length ≤ c ∧ Kd.C kB W A l.length l ∧ l.length ≤ Rows.uptoBulk y.1 ∧ ∀ x ∈ l, 0 ≤ x ∧ x ≤ 255 := by
  obtain ⟨A, l, c, h1, h2, h3, h4, h5⟩ := open_row (α := Int) kB 26 5 Try.underlying26 (by kernel_rfl) (fun _ x => 0 ≤ x ∧ x ≤ 255) (fun n cs y hy => by
    obtain ⟨x, rfl, rfl, hw⟩ := DataW.trod_int Try.underlying5 hy
    refine ⟨x, rfl, ?_⟩
    simp [Lit.wf, IntKind.min, IntKind.max, IntKind.signed, IntKind.bits] at hw
    omega) h
  exact ⟨A, l, c, h1, h2, h3, h4, fun x hx => (h5 x hx).elim fun _ h => h.1⟩
theorem open_picks {sp : Nat → Bool} {b : Nat} {held : Bool} {n : Nat} {v : Value} {y : DataW H × List MemPlace} (h : DataW.trod enc Try.prog W b sp held n 23 [v] = some y) :
    ∃ (A : Option Addr) (l : List Int) (c : Nat), v = .slice A l.length c ∧ l.length ≤ c ∧ Kd.C (Kd.int .i64) W A l.length l ∧ l.length ≤ Rows.uptoBulk y.1 ∧ ∀ x ∈ l, -9223372036854775808 ≤ x ∧ x ≤ 9223372036854775807 := by
  obtain ⟨A, l, c, h1, h2, h3, h4, h5⟩ := open_row (α := Int) (Kd.int .i64) 23 3 Try.underlying23 (by kernel_rfl) (fun _ x => -9223372036854775808 ≤ x ∧ x ≤ 9223372036854775807) (fun n cs y hy => by
    obtain ⟨x, rfl, rfl, hw⟩ := DataW.trod_int Try.underlying3 hy
    refine ⟨x, rfl, ?_⟩
    simp [Lit.wf, IntKind.min, IntKind.max, IntKind.signed, IntKind.bits] at hw
    omega) h
  exact ⟨A, l, c, h1, h2, h3, h4, fun x hx => (h5 x hx).elim fun _ h => h.1⟩

theorem bulk_agg {ds : List (DataW H)} {d : DataW H} (h : d ∈ ds) : Rows.uptoBulk d ≤ Rows.uptoBulk (.agg ds) := by
  have := bulk_mem h
  simp only [Rows.uptoBulk]; omega
/-- What is known of a file that came in. -/
structure FileIn (N : Nat) (o : S28) : Prop where
  bytes : ∀ x ∈ o.f1, 0 ≤ x ∧ x ≤ 255
  len : o.f1.length ≤ N
  name : o.f0.size ≤ N
theorem open_file {sp : Nat → Bool} {b : Nat} {held : Bool} {n : Nat} {cs : List Value} {y : DataW H × List MemPlace} (h : DataW.trod enc Try.prog W b sp held n 28 cs = some y) :
    ∃ o : S28, k28.K W o cs ∧ FileIn (Rows.uptoBulk y.1) o := by
  obtain ⟨xs, m, _, rfl, hl, hlen, hf⟩ := DataW.trod_struct Try.underlying28 h
  have hc : cs.length = 2 := hl.trans (by kernel_rfl)
  match cs, hc, xs, hlen with
  | [c0, c1], _, [y0, y1], _ =>
    have k9 : Try.prog.cellsOf 9 = 1 := by kernel_rfl
    have k26 : Try.prog.cellsOf 26 = 1 := by kernel_rfl
    have h0 : DataW.trod enc Try.prog W b sp held m 9 [c0] = some y0 := by simpa [k9, k26] using hf 0 _ rfl
    have h1 : DataW.trod enc Try.prog W b sp held m 26 [c1] = some y1 := by simpa [k9, k26] using hf 1 _ rfl
    obtain ⟨s0, e0, rfl, _⟩ := DataW.trod_string Try.underlying9 h0
    obtain ⟨A1, l1, cc1, rfl, hl1, hC1, hb1, hr1⟩ := open_bytes h1
    simp only [List.cons.injEq, and_true] at e0
    subst e0
    refine ⟨⟨s0, l1⟩, k28_mk W ⟨s0, l1⟩ hl1 hC1, hr1, ?_, ?_⟩
    · exact Nat.le_trans hb1 (bulk_agg (by simp))
    · have hm := bulk_agg (H := H) (ds := [.lit (.string s0.data.toList), y1.1]) (d := .lit (.string s0.data.toList)) (by simp)
      simp only [Rows.uptoBulk] at hm ⊢
      have : s0.size = s0.data.toList.length := by simp
      simp only [List.map_cons, List.map_nil]
      show s0.size ≤ _
      omega
theorem FileIn.mono {N M : Nat} {o : S28} (h : FileIn N o) (hm : N ≤ M) : FileIn M o := ⟨h.bytes, Nat.le_trans h.len hm, Nat.le_trans h.name hm⟩
instance inhS28 : Inhabited S28 := ⟨z28⟩
theorem open_files {sp : Nat → Bool} {b : Nat} {held : Bool} {n : Nat} {v : Value} {y : DataW H × List MemPlace} (h : DataW.trod enc Try.prog W b sp held n 22 [v] = some y) :
    ∃ (A : Option Addr) (l : List S28) (c : Nat), v = .slice A l.length c ∧ l.length ≤ c ∧ Kd.C k28 W A l.length l ∧ l.length ≤ Rows.uptoBulk y.1 ∧ ∀ o ∈ l, FileIn (Rows.uptoBulk y.1) o := by
  obtain ⟨A, l, c, h1, h2, h3, h4, h5⟩ := open_row (α := S28) k28 22 28 Try.underlying22 (by kernel_rfl) (fun D o => FileIn (Rows.uptoBulk D) o) (fun n cs y hy => open_file hy) h
  exact ⟨A, l, c, h1, h2, h3, h4, fun x hx => (h5 x hx).elim fun D hD => hD.1.mono hD.2⟩
/-- The files as an image. -/
def toImg (l : List S28) : Img := l.map (fun x => (x.f0, toBy x.f1))
theorem toImg_len (l : List S28) : (toImg l).length = l.length := List.length_map ..
theorem toImg_enc {N : Nat} {l : List S28} (h : ∀ o ∈ l, FileIn N o) : (toImg l).map encF = l := by
  unfold toImg
  rw [List.map_map]
  refine (List.map_congr_left (fun x hx => ?_)).trans (List.map_id _)
  have h1 := Dw.toBy_in (h x hx).bytes
  show (⟨x.f0, ints (toBy x.f1)⟩ : S28) = x
  rw [h1]
theorem array3 {α : Type} {cs : Array α} (h : cs.size = 3) : ∃ c0 c1 c2, cs = #[c0, c1, c2] := by
  obtain ⟨l⟩ := cs
  match l, h with
  | [c0, c1, c2], _ => exact ⟨c0, c1, c2, rfl⟩
theorem open_image {r : Reach} {b0 b : Nat} {sp : Nat → Bool} {held : Bool} {v : Value} {d : DataW H} {p : List MemPlace} (hv : Value.okWide Try.prog W r b0 25 v) (h : DataW.Trod enc Try.prog W b sp held 25 v d p) :
    ∃ A1 c1 l1 room A2 c2 l2, v = .agg #[.slice A1 l1.length c1, .int .i64 room, .slice A2 l2.length c2] ∧ Kd.C k28 W A1 l1.length l1 ∧ l1.length ≤ c1 ∧ l1.length ≤ Rows.uptoBulk d ∧ (∀ o ∈ l1, FileIn (Rows.uptoBulk d) o) ∧
      Kd.C (Kd.int .i64) W A2 l2.length l2 ∧ l2.length ≤ c2 ∧ ∀ x ∈ l2, -9223372036854775808 ≤ x ∧ x ≤ 9223372036854775807 := by
  obtain ⟨cs, rfl, hsz⟩ := okWide_struct Try.underlying25 hv
  obtain ⟨c0, c1, c2, rfl⟩ := array3 (hsz.trans (by kernel_rfl))
  obtain ⟨fuel, hfu⟩ := h
  obtain ⟨xs, m, _, hx, hl, hlen, hf⟩ := DataW.trod_struct Try.underlying25 hfu
  simp only [Prod.mk.injEq] at hx
  obtain ⟨rfl, _⟩ := hx
  match xs, hlen with
  | [y0, y1, y2], _ =>
    have k3 : Try.prog.cellsOf 3 = 1 := by kernel_rfl
    have k22 : Try.prog.cellsOf 22 = 1 := by kernel_rfl
    have k23 : Try.prog.cellsOf 23 = 1 := by kernel_rfl
    have h0 : DataW.trod enc Try.prog W b sp held m 22 [c0] = some y0 := by simpa [k3, k22, k23, Value.cells] using hf 0 _ rfl
    have h1 : DataW.trod enc Try.prog W b sp held m 3 [c1] = some y1 := by simpa [k3, k22, k23, Value.cells] using hf 1 _ rfl
    have h2 : DataW.trod enc Try.prog W b sp held m 23 [c2] = some y2 := by simpa [k3, k22, k23, Value.cells] using hf 2 _ rfl
    obtain ⟨a1, e1, _, w1⟩ := DataW.trod_int Try.underlying3 h1
    simp only [List.cons.injEq, and_true] at e1
    subst e1
    obtain ⟨A1, l1, d1, rfl, g1, C1, n1, o1⟩ := open_files h0
    obtain ⟨A2, l2, d2, rfl, g2, C2, n2, o2⟩ := open_picks h2
    have hm : Rows.uptoBulk y0.1 ≤ Rows.uptoBulk (.agg [y0.1, y1.1, y2.1]) := bulk_agg (by simp)
    exact ⟨A1, d1, l1, a1, A2, d2, l2, rfl, C1, g1, Nat.le_trans n1 hm, fun o ho => (o1 o ho).mono hm, C2, g2, o2⟩
end
end Go.Proofs.Ytonecajkfbdnmaa.Li

namespace Go.Proofs.Ytonecajkfbdnmaa.Lir
set_option linter.unusedVariables false
open Go.ChangeShapes Go.WideShapes Go.ChangeAt Go.RowKit Go.Lib Go.Deep Go.Proofs.Ytonecajkfbdnmaa.Dk Go.Proofs.Ytonecajkfbdnmaa.Li
open Go.Proofs.YtonecajkfbdnmaaW.PrintWords Go.Proofs.Ytonecajkfbdnmaa.PDiskRoom

theorem own : ownKnob Try.prog.godebug = none := by kernel_rfl
set_option maxRecDepth 100000 in
theorem contract (H : Type) (enc : TypeId × Value → H) (W : World) (base : Nat) (args : Array Value) (ds gs : List (DataW H)) (before : List MemPlace)
    (hval : ∀ (j : Nat) t v, Try.f3.params[j]? = some t → args[j]? = some v → Value.okWide Try.prog W .any base t v)
    (hW : DataW.Whole enc Try.prog Try.f3.params.toList Rows.diskLoadedSpec.vars false W args.toList ds gs before)
    (hcond : Rows.uptoSmall H (ds ++ gs) = true) :
    Calls Try.prog 3 args W fun e W' => ∃ v, e = .returned v ∧ Rows.diskLoadedSpec.post enc Try.prog Try.f3 false true false false W args v W' := by
  have hW' := hW
  have hlt := hW.lt
  obtain ⟨p, q, hA0, hV, rfl, hfz, hnd⟩ := hW
  have hA : DataW.TrodAll enc Try.prog W 0 (fun _ => true) true Try.f3.params.toList args.toList ds p := hA0
  rw [Try.params3] at hA hval
  obtain ⟨v0, d0, rfl, rfl, h0⟩ := trodAll_one hA
  obtain ⟨rfl, rfl⟩ := trodVars_none hV
  have hok := hval 0 25 v0 rfl rfl
  clear hA0 hval
  simp only [List.append_nil] at hW' hlt
  have fin : ∀ W', Below W.heap.size W W' → Rows.diskLoadedSpec.post enc Try.prog Try.f3 false true false false W #[v0] (.bool true) W' := fun W' bel =>
    ⟨_, _, _, [], _, [], hW', trodAll_mk1 (shut_bool Try.underlying4 _), trodAll_mk1 (Below.trod (by kernel_rfl) (by kernel_rfl) (of_decide_eq_true (by kernel_rfl)) h0 bel hlt), rfl, bel.frame _, fun h => by cases h⟩
  obtain ⟨A1, c1, l1, room, A2, c2, l2, hv, C1, g1, n1, o1, C2, g2, p2⟩ := open_image hok h0
  have hb : Rows.uptoBulk d0 ≤ 1048576 := by
    have hb0 := of_decide_eq_true hcond
    simp only [List.append_nil, Rows.uptoBulkAll] at hb0
    omega
  have he := toImg_enc o1
  have hle := toImg_len l1
  have hw : ∀ x ∈ toImg l1, x.1.size ≤ 1048576 ∧ x.2.length ≤ 1048576 := fun x hx => by
    obtain ⟨o, ho, rfl⟩ := List.mem_map.1 hx
    have h1 := o1 o ho
    exact ⟨Nat.le_trans h1.name hb, by show (toBy o.f1).length ≤ _; rw [toBy_len]; exact Nat.le_trans h1.len hb⟩
  have hCI : Kd.C k28 W A1 (toImg l1).length ((toImg l1).map encF) := by rw [he, hle]; exact C1
  have walk := diskLoaded_walk W A1 c1 (toImg l1) room A2 c2 l2 hCI (by rw [hle]; omega) (by rw [hle]; exact g1) (fun x hx => Nat.le_trans (hw x hx).1 (by unfold big; omega)) (fun x hx => Nat.le_trans (hw x hx).2 (by omega)) C2 g2 p2
  rw [hle] at walk
  obtain rfl := hv
  refine walk.mono fun e W' ⟨he, bel⟩ => ?_
  subst he
  exact ⟨_, rfl, fin W' bel⟩
theorem witness_row (os : Os) {H : Type} (enc : TypeId × Value → H) :
    (Rows.OpenSpec.upto Rows.diskLoadedSpec).preRow enc Try.prog Try.f3 Rows.diskLoadedUptoRow.domain false Rows.diskLoadedUptoRow.laid ((World.settled Try.prog os).forCall (fun _ _ => 0) ⟨#[], #[.agg #[.slice none 0 0, .int .i64 0, .slice none 0 0]], []⟩).memory #[.agg #[.slice none 0 0, .int .i64 0, .slice none 0 0]] := by
  have hw : (DataW.whole enc Try.prog ((World.settled Try.prog os).forCall (fun _ _ => 0) ⟨#[], #[.agg #[.slice none 0 0, .int .i64 0, .slice none 0 0]], []⟩).memory Try.f3.params.toList Rows.diskLoadedSpec.vars false #[Value.agg #[.slice none 0 0, .int .i64 0, .slice none 0 0]].toList 8).map (fun x => (x.1, x.2.1)) =
      some ([.agg [.nil, .lit (.int .i64 0), .nil]], []) := by kernel_rfl
  obtain ⟨⟨x1, x2, x3⟩, hx, hx1⟩ := Option.map_eq_some_iff.1 hw
  simp only [Prod.mk.injEq] at hx1
  obtain ⟨rfl, rfl⟩ := hx1
  exact OpenSpec.preRow_of_cond 8 hx (by kernel_rfl) (fun k hk => by cases hk; kernel_rfl) (by kernel_rfl) (laidMet_nil _ _)
set_option maxRecDepth 100000 in
set_option maxHeartbeats 2000000 in
theorem lifted (os : Os) (started : os.Started) (H : Type) (enc : TypeId × Value → H) (F : Stop.Interp) :
    ReturnsInHanded {} Try.checked os 3 .any ((Rows.OpenSpec.upto Rows.diskLoadedSpec).preRow enc Try.prog Try.f3 Rows.diskLoadedUptoRow.domain false Rows.diskLoadedUptoRow.laid) (((Rows.OpenSpec.upto Rows.diskLoadedSpec).at F).post enc Try.prog Try.f3 false true false false) := by
  refine returnsInHanded_of_row (C := Try.checked) (s := Rows.OpenSpec.upto Rows.diskLoadedSpec) own started (by kernel_rfl) Try.func3
    (witness_row_at (enc := enc) (C := Try.checked) false (World.settled Try.prog os) #[.agg #[.slice none 0 0, .int .i64 0, .slice none 0 0]] rfl (by kernel_rfl) (by kernel_rfl) (by kernel_rfl) (witness_row os enc)) ?_
  intro W base args ds gs before hval hW _ hcond _ _ _ _
  exact contract H enc W base args ds gs before hval hW (hcond _ rfl)
theorem said : Rows.DiskLoadedUptoSaid :=
  OpenClaim.holds_of_cond 3 Try.f3 rfl rfl rfl rfl rfl rfl rfl ⟨rfl, rfl, rfl, rfl, rfl⟩ rfl rfl rfl rfl rfl (by kernel_rfl) Try.func3 (by kernel_rfl)
    (of_decide_eq_true (by kernel_rfl)) (by unfold Func.isWrapper; first | (rw [if_pos (by decide +kernel)]; kernel_rfl) | (rw [if_neg (by decide +kernel)]; exact ⟨rfl, rfl⟩))
    (fun os started H enc _ F => by rw [OpenClaim.pre_eq_preRow]; exact lifted os started H enc F)
end Go.Proofs.Ytonecajkfbdnmaa.Lir
namespace Go.Proofs.Ytonecajkfbdnmaa
theorem diskLoadedUpto_holds : Rows.DiskLoadedUptoSaid := Lir.said
#print axioms diskLoadedUpto_holds
end Go.Proofs.Ytonecajkfbdnmaa
