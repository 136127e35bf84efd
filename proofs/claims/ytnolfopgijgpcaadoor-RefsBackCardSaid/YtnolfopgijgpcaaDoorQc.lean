import Derived.Test.YtnolfopgijgpcaaDoorQb
import Derived.Deep.RegionHeld3
import Derived.Deep.CutRange
/- The walk of refs.Map. -/
namespace Go.Proofs.YtnolfopgijgpcaaDoor.Rm
set_option linter.unusedVariables false
open Go.Lib Go.RowKit Go.Proofs.YtnolfopgijgpcaaDoor.Nm Go.Proofs.YtnolfopgijgpcaaDoor.PRefsMapped Go.Proofs.YtnolfopgijgpcaaDoorW.PrintWords

theorem kp_drew {wa : World} {p q : Addr} {u v : Value} (h0 : wa.cell? p = some u) (h1 : wa.cell? q = some v) : wa.drew.cell? p = some u ∧ wa.drew.cell? q = some v ∧ Below wa.heap.size wa wa.drew :=
  ⟨h0, h1, pw_below_drewN (Below.refl _ _) 1⟩
theorem kp_alloc {wa W : World} {p q : Addr} {u v : Value} (o : Obj) (h : W.cell? p = some u ∧ W.cell? q = some v ∧ Below wa.heap.size wa W) : (W.alloc o).cell? p = some u ∧ (W.alloc o).cell? q = some v ∧ Below wa.heap.size wa (W.alloc o) :=
  have hb : Below W.heap.size W (W.alloc o) := (Below.refl _ _).alloc (Nat.le_refl _) o
  ⟨pw_cell_below hb h.1, pw_cell_below hb h.2.1, h.2.2.alloc h.2.2.size o⟩
theorem kp_call {wa W w1 : World} {p q : Addr} {u v : Value} (hb : Below W.heap.size W w1) (h : W.cell? p = some u ∧ W.cell? q = some v ∧ Below wa.heap.size wa W) : w1.cell? p = some u ∧ w1.cell? q = some v ∧ Below wa.heap.size wa w1 :=
  ⟨pw_cell_below hb h.1, pw_cell_below hb h.2.1, h.2.2.trans (hb.mono h.2.2.size)⟩

theorem kp_five0 {w W : World} {p0 p1 p2 p3 : Addr} {v0 v1 v2 v3 : Value} (h0 : W.cell? p0 = some v0) (h1 : W.cell? p1 = some v1) (h2 : W.cell? p2 = some v2) (h3 : W.cell? p3 = some v3) (h : Below w.heap.size w W) :
    W.drew.cell? p0 = some v0 ∧ W.drew.cell? p1 = some v1 ∧ W.drew.cell? p2 = some v2 ∧ W.drew.cell? p3 = some v3 ∧ Below w.heap.size w W.drew := ⟨h0, h1, h2, h3, pw_below_drewN h 1⟩
theorem kp_five {w W w1 : World} {p0 p1 p2 p3 : Addr} {v0 v1 v2 v3 : Value} (hb : Below W.heap.size W w1) (h : W.cell? p0 = some v0 ∧ W.cell? p1 = some v1 ∧ W.cell? p2 = some v2 ∧ W.cell? p3 = some v3 ∧ Below w.heap.size w W) :
    w1.cell? p0 = some v0 ∧ w1.cell? p1 = some v1 ∧ w1.cell? p2 = some v2 ∧ w1.cell? p3 = some v3 ∧ Below w.heap.size w w1 :=
  ⟨pw_cell_below hb h.1, pw_cell_below hb h.2.1, pw_cell_below hb h.2.2.1, pw_cell_below hb h.2.2.2.1, h.2.2.2.2.trans (hb.mono h.2.2.2.2.size)⟩
theorem p_on {a b c d : By × Bool × Bool} {p : Bool} (h1 : a = b) (h2 : b = if p = true then c else d) (h3 : p = false) : a = d := by rw [h1, h2, h3]; rfl
theorem p_off {a b c d : By × Bool × Bool} {p : Bool} (h1 : a = b) (h2 : b = if p = true then c else d) (h3 : p = true) : a = c := by rw [h1, h2, h3]; rfl

set_option maxRecDepth 100000 in
set_option maxHeartbeats 4000000 in
theorem progMap_walk (M : Nat) (hM : M ≤ big) (l : List S55) (x : ByteArray) (A : Option Addr) (c : Nat) (w : World) (hT : Hid (Lib.Utf8Tabs 0 1 w)) (hC : Hid (Kd.C k55 w A l.length l)) (hc : l.length ≤ c) (hr : Hid (Rok M l)) (hx : x.size ≤ big) :
    Calls Tryd.prog 16 #[.slice A l.length c, .string x] w fun e w' => e = mapV (mapL (rs l) (bl x)) ∧ Below w.heap.size w w' := by
  have hm := len_max hC.out
  have HG := Lib.hid (check_walk x w (by unfold big at hx; omega) hT.out)
  cases hg : goodB (bl x)
  · rw [hg] at HG
    have HGD := Lib.hid hg
    clear hg
    have HG' : Hid (Calls Tryd.prog 8 #[.string x] w fun e w' => e = .returned (.int .i64 140) ∧ Below w.heap.size w w') := HG
    go_enter Tryd.func16, Tryd.ntmps16
    go_wp2_with fail
    refine HG'.out.mono ?_
    rintro e w1 ⟨rfl, hb⟩
    have HB := Lib.hid hb
    clear hb
    go_wp2_with fail
    go_ret3
    exact ⟨by unfold mapL; rw [HGD.out]; rfl, HB.out⟩
  · rw [hg] at HG
    have HGD := Lib.hid hg
    clear hg
    have HG' : Hid (Calls Tryd.prog 8 #[.string x] w fun e w' => e = .returned (.int .i64 0) ∧ Below w.heap.size w w') := HG
    go_enter Tryd.func16, Tryd.ntmps16
    go_wp2_with fail
    refine HG'.out.mono ?_
    rintro e w1 ⟨rfl, hb⟩
    have HB := Lib.hid hb
    clear hb
    go_wp2_with fail
    go_loopw [22] (fun v22 wr => ∃ (i : Nat), i ≤ l.length ∧ v22 = .int .i64 i ∧ Below w.heap.size w wr ∧ out (rs (l.take i)) (bl x) = false) (fun v22 _ => l.length - (intOf v22).toNat)
    case atStart => exact ⟨0, Nat.zero_le _, rfl, HB.out, by simp [out]⟩
    case round =>
      obtain ⟨i, hi, rfl, hb, hok⟩ := hrel
      have HBr := Lib.hid hb
      have HOK := Lib.hid hok
      clear hb hok
      by_cases hlt : i < l.length
      · have hu := hr.out l[i] (List.getElem_mem hlt)
        obtain ⟨ad, rfl, h0, h1, h2, h3⟩ := rule_at (Kd.C_below hC.out HBr.out) i hlt
        obtain ⟨u, hu0⟩ : ∃ u, l[i] = u := ⟨_, rfl⟩
        rw [hu0] at h0 h1 h2 h3 hu
        have HU := Lib.hid hu0
        clear hu0
        go_wp2_with fail
        clear h0 h1 h2 h3
        have hcell : (wr.alloc (.cells #[.string u.f0, .string u.f1, .bool u.f2, .bool u.f3] 55)).cell? ⟨wr.heap.size, 3, none⟩ = some (.bool u.f3) := by simp [go_sem]
        have hB1 : Below w.heap.size w (wr.alloc (.cells #[.string u.f0, .string u.f1, .bool u.f2, .bool u.f3] 55)) := HBr.out.alloc (HBr.out.size) _
        obtain ⟨wa, hwa⟩ : ∃ wa, wr.alloc (.cells #[.string u.f0, .string u.f1, .bool u.f2, .bool u.f3] 55) = wa := ⟨_, rfl⟩
        rw [hwa] at hcell hB1 ⊢
        clear hwa
        refine (split_walk u.f0 wa (by omega)).mono ?_
        rintro e w2 ⟨rfl, hb2⟩
        have hcell2 := pw_cell_below hb2 hcell
        have hB2 := hB1.trans (hb2.mono hB1.size)
        clear hb2 hcell hB1
        have HF := Lib.hid (progFits (bl u.f0) x w2 (by rw [bl_length]; omega) hx)
        cases hf : (fitsL (bl u.f0) (bl x)).2
        · have HFI := Lib.hid hf
          rw [hf] at HF
          clear hf
          go_wp2_with fail
          refine HF.out.mono ?_
          rintro e w3 ⟨rfl, hb3⟩
          have hcell3 := pw_cell_below hb3 hcell2
          have hB3 := Lib.hid (hB2.trans (hb3.mono hB2.size))
          clear hb3 hcell2 hB2
          cases hn : u.f3
          all_goals
            rw [hn] at hcell3
            have HN := Lib.hid hn
            clear hn
            go_wp2_with fail
            go_roundw
          case rel => exact ⟨i + 1, by omega, by go_num, hB3.out, by rw [out_take l i hlt, HU.out, HFI.out, Bool.and_false, Bool.or_false]; exact HOK.out⟩
          case measure => simp [intOf]; omega
          case rel => exact ⟨i + 1, by omega, by go_num, hB3.out, by rw [out_take l i hlt, HU.out, HFI.out, Bool.and_false, Bool.or_false]; exact HOK.out⟩
          case measure => simp [intOf]; omega
        · have HFI := Lib.hid hf
          rw [hf] at HF
          clear hf
          go_wp2_with fail
          refine HF.out.mono ?_
          rintro e w3 ⟨rfl, hb3⟩
          have hcell3 := pw_cell_below hb3 hcell2
          have hB3 := Lib.hid (hB2.trans (hb3.mono hB2.size))
          clear hb3 hcell2 hB2
          cases hn : u.f3
          · rw [hn] at hcell3
            have HN := Lib.hid hn
            clear hn
            go_wp2_with fail
            go_roundw
            case rel => exact ⟨i + 1, by omega, by go_num, hB3.out, by rw [out_take l i hlt, HU.out, HN.out, Bool.false_and, Bool.or_false]; exact HOK.out⟩
            case measure => simp [intOf]; omega
          · rw [hn] at hcell3
            have HN := Lib.hid hn
            clear hn
            go_wp2_with fail
            go_ret3
            refine ⟨?_, hB3.out⟩
            have ho : out (rs l) (bl x) = true := out_mono l (i + 1) _ (by rw [out_take l i hlt, HU.out, HFI.out, HN.out]; simp)
            unfold mapL
            rw [ho]; simp; rfl
      · have hil : i = l.length := by omega
        subst hil
        rw [List.take_length] at HOK
        have hmap : mapL (rs l) (bl x) = first (rs (l.drop 0)) (bl x) := by
          unfold mapL
          rw [HOK.out, HGD.out, List.drop_zero]; rfl
        have HMap := Lib.hid hmap
        clear hmap HOK
        go_wp2_with fail
        go_loopw [42] (fun v42 wr => ∃ (j : Nat), v42 = .int .i64 j ∧ j ≤ l.length ∧ Below w.heap.size w wr ∧ mapL (rs l) (bl x) = first (rs (l.drop j)) (bl x)) (fun v42 _ => l.length - (intOf v42).toNat)
        case atStart => exact ⟨0, rfl, Nat.zero_le _, HBr.out, HMap.out⟩
        case round =>
          obtain ⟨j, rfl, hj, hb2, hmj⟩ := hrel
          have HB2 := Lib.hid hb2
          have HMj := Lib.hid hmj
          clear hb2 hmj
          by_cases hj2 : j < l.length
          · have hu := hr.out l[j] (List.getElem_mem hj2)
            obtain ⟨ad, rfl, h0, h1, h2, h3⟩ := rule_at (Kd.C_below hC.out HB2.out) j hj2
            have hfd := first_drop l j hj2 (bl x)
            obtain ⟨u, hu0⟩ : ∃ u, l[j] = u := ⟨_, rfl⟩
            rw [hu0] at h0 h1 h2 h3 hu hfd
            have HFD := Lib.hid hfd
            clear hfd
            go_upto_region 13 with fail
            clear h0 h1 h2 h3
            have hu0 : u.f0.size ≤ big := by omega
            have hu1 : u.f1.size ≤ big := by omega
            have hs0 := fun W => Lib.hid (split_exact u.f0 W hu0)
            have hs1 := fun W => Lib.hid (split_exact u.f1 W hu1)
            go_cut [13, 14] from 43 to 83 (fun v13 v14 wx => ∃ p q : Nat, v13 = .pointer (some ⟨p, 0, none⟩) ∧ v14 = .pointer (some ⟨q, 0, none⟩) ∧ Below w.heap.size w wx ∧
              wx.cell? ⟨wr.heap.size, 2, none⟩ = some (.bool u.f2) ∧ wx.cell? ⟨wr.heap.size, 3, none⟩ = some (.bool u.f3) ∧
              wx.cell? ⟨p, 0, none⟩ = some (.string (mk (ahd (bl u.f0)))) ∧ wx.cell? ⟨p, 1, none⟩ = some (.string (mk (bhd (bl u.f0)))) ∧ wx.cell? ⟨p, 2, none⟩ = some (.bool (hasStar (bl u.f0))) ∧
              wx.cell? ⟨q, 0, none⟩ = some (.string (mk (ahd (bl u.f1)))) ∧ wx.cell? ⟨q, 1, none⟩ = some (.string (mk (bhd (bl u.f1)))) ∧ wx.cell? ⟨q, 2, none⟩ = some (.bool (hasStar (bl u.f1))))
            case first =>
              go_region_held3 (fun w' => w'.cell? ⟨wr.heap.size, 0, none⟩ = some (.string u.f0) ∧ w'.cell? ⟨wr.heap.size, 1, none⟩ = some (.string u.f1)) (first | (constructor <;> (simp [go_sem]; done)) | (constructor <;> (go_simp; done)))
                (first | (go_at_call 32; refine Calls.mono (split_exact _ _ ?hsz) ?_; (case hsz => (first | exact hu0 | exact hu1)); rintro e w' ⟨rfl, n, rfl⟩))
              all_goals (go_wp2_with fail; go_meet)
              all_goals
                case rel =>
                  refine ⟨_, _, rfl, rfl, ?_, ?_, ?_, ?_, ?_, ?_, ?_, ?_, ?_⟩
                  · have hsz := HB2.out.size
                    refine Below.trans HB2.out ?_
                    repeat' (first | with_reducible exact Below.refl _ _ | (with_reducible refine Below.alloc ?_ ?_ _) | (with_reducible refine Below.setCell ?_ ?_ _) | with_reducible refine pw_below_drewN ?_ _ | omega | (simp [go_sem]; omega))
                  all_goals (simp [go_sem]; done)
            case rest =>
              obtain ⟨p, q, rfl, rfl, hBc, hb2, hb3, hp0, hp1, hp2, hq0, hq1, hq2⟩ := hcut
              have HBc := Lib.hid hBc
              have hlen := fitsL_length (bl u.f0) (bl x)
              rw [bl_length] at hlen
              obtain ⟨m, hm0⟩ : ∃ m, (fitsL (bl u.f0) (bl x)).1 = m := ⟨_, rfl⟩
              have HF := Lib.hid (progFits (bl u.f0) x wc (by rw [bl_length]; omega) hx)
              have HM0 := Lib.hid hm0
              have hml : m.length ≤ big := by rw [hm0] at hlen; omega
              rw [hm0] at HF
              clear hBc hm0 hlen
              cases hf : (fitsL (bl u.f0) (bl x)).2
              · rw [hf] at HF
                have HFI := Lib.hid hf
                clear hf
                go_wp2_with fail
                refine HF.out.mono ?_
                rintro e w3 ⟨rfl, hb⟩
                have hb3' := pw_cell_below hb hb3
                have HB3 := Lib.hid (HBc.out.trans (hb.mono HBc.out.size))
                clear hb
                cases hn : u.f3
                all_goals
                  rw [hn] at hb3'
                  go_wp2_with fail
                  go_roundw
                case rel => exact ⟨j + 1, by go_num, by omega, HB3.out, p_on HMj.out HFD.out (takes_fit u _ HFI.out)⟩
                case measure => simp [intOf]; omega
                case rel => exact ⟨j + 1, by go_num, by omega, HB3.out, p_on HMj.out HFD.out (takes_fit u _ HFI.out)⟩
                case measure => simp [intOf]; omega
              · rw [hf] at HF
                have HFI := Lib.hid hf
                clear hf
                go_wp2_with fail
                refine HF.out.mono ?_
                rintro e w3 ⟨rfl, hb⟩
                have hx2 := pw_cell_below hb hb2
                have hx3 := pw_cell_below hb hb3
                have hyp := pw_cell_below hb hp2
                have hy0 := pw_cell_below hb hq0
                have hy1 := pw_cell_below hb hq1
                have hy2 := pw_cell_below hb hq2
                have HB3 := Lib.hid (HBc.out.trans (hb.mono HBc.out.size))
                clear hb hb2 hb3 hp0 hp1 hp2 hq0 hq1 hq2
                have HPT := fun W => Lib.hid (progPut (bl u.f1) (mk m) W (by rw [bl_length]; omega) (by rw [mk_size]; exact hml))
                rw [bl_mk] at HPT
                cases hn : u.f3
                · rw [hn] at hx3
                  have HN := Lib.hid hn
                  clear hn
                  obtain ⟨st, hst⟩ : ∃ st, hasStar (bl u.f0) = st := ⟨_, rfl⟩
                  obtain ⟨sd, hsd⟩ : ∃ sd, hasStar (bl u.f1) = sd := ⟨_, rfl⟩
                  rw [hst] at hyp
                  rw [hsd] at hy2 HPT
                  have HST := Lib.hid hst
                  have HSD := Lib.hid hsd
                  have HPT' := HPT
                  clear hst hsd HPT
                  by_cases hss : st = sd
                  · subst hss
                    have HP : Hid ((!u.f3 && (hasStar (bl u.f0) == hasStar (bl u.f1))) = true) := Lib.hid (by rw [HN.out, HST.out, HSD.out]; cases st <;> rfl)
                    clear HST HSD
                    all_goals
                      go_wp2_with fail
                      refine (HPT' _).out.mono ?_
                      rintro e w4 ⟨rfl, hb⟩
                      have hx2 := pw_cell_below hb hx2
                      have hy0 := pw_cell_below hb hy0
                      have hy1 := pw_cell_below hb hy1
                      have hy2 := pw_cell_below hb hy2
                      have HB4 := Lib.hid (HB3.out.trans (hb.mono HB3.out.size))
                      clear hb
                      go_wp2_with fail
                      have hpl := putL_length (bl u.f1) m
                      rw [bl_length] at hpl
                      have HCK := Lib.hid (check_walk (mk (putL (bl u.f1) m)) w4 (by rw [mk_size]; unfold big at *; omega) (tabs_below hT.out HB4.out))
                      rw [bl_mk] at HCK
                      clear hpl
                      cases hg : goodB (putL (bl u.f1) m)
                      · have HG2 := Lib.hid hg
                        rw [hg, show ans false = 140 from rfl] at HCK
                        clear hg
                        refine HCK.out.mono ?_
                        rintro e w5 ⟨rfl, hb⟩
                        have HB5 := Lib.hid (HB4.out.trans (hb.mono HB4.out.size))
                        clear hb
                        go_wp2_with fail
                        go_roundw
                        case rel => exact ⟨j + 1, by go_num, by omega, HB5.out, p_on HMj.out HFD.out (takes_bad u _ m HM0.out HG2.out)⟩
                        case measure => simp [intOf]; omega
                      · have HG2 := Lib.hid hg
                        rw [hg, show ans true = 0 from rfl] at HCK
                        clear hg
                        refine HCK.out.mono ?_
                        rintro e w5 ⟨rfl, hb⟩
                        have hx2 := pw_cell_below hb hx2
                        have hy0 := pw_cell_below hb hy0
                        have hy1 := pw_cell_below hb hy1
                        have hy2 := pw_cell_below hb hy2
                        have HB5 := Lib.hid (HB4.out.trans (hb.mono HB4.out.size))
                        clear hb
                        go_wp2_with fail
                        go_region_held3 (fun w' => w'.cell? ⟨wr.heap.size, 2, none⟩ = some (.bool u.f2) ∧ w'.cell? ⟨q, 0, none⟩ = some (.string (mk (ahd (bl u.f1)))) ∧ w'.cell? ⟨q, 1, none⟩ = some (.string (mk (bhd (bl u.f1)))) ∧ w'.cell? ⟨q, 2, none⟩ = some (.bool st) ∧ Below w.heap.size w w')
                          (first | exact kp_five0 hx2 hy0 hy1 hy2 HB5.out | exact kp_five (by assumption) (by assumption))
                          (first | (go_at_call 34; refine (HPT' _).out.mono ?_; rintro e w6 ⟨rfl, hb⟩))
                        go_wp2_with fail
                        go_ret3
                        exact ⟨by rw [p_off HMj.out HFD.out (takes_yes u _ m HM0.out HFI.out HP.out HG2.out), HM0.out]; rfl, And.right (And.right (And.right (And.right (by assumption))))⟩
                  · have HP : Hid ((!u.f3 && (hasStar (bl u.f0) == hasStar (bl u.f1))) = false) := Lib.hid (by rw [HN.out, HST.out, HSD.out]; revert hss; cases st <;> cases sd <;> simp)
                    clear HST HSD
                    cases st <;> cases sd <;> first | exact absurd rfl hss | skip
                    all_goals
                      go_wp2_with fail
                      go_roundw
                    case rel => exact ⟨j + 1, by go_num, by omega, HB3.out, p_on HMj.out HFD.out (takes_pair u _ HP.out)⟩
                    case measure => simp [intOf]; omega
                    case rel => exact ⟨j + 1, by go_num, by omega, HB3.out, p_on HMj.out HFD.out (takes_pair u _ HP.out)⟩
                    case measure => simp [intOf]; omega
                · rw [hn] at hx3
                  have HN := Lib.hid hn
                  clear hn
                  go_wp2_with fail
                  go_roundw
                  case rel => exact ⟨j + 1, by go_num, by omega, HB3.out, p_on HMj.out HFD.out (takes_pair u _ (by rw [HN.out]; rfl))⟩
                  case measure => simp [intOf]; omega
          · go_wp2_with fail
            go_ret3
            exact ⟨by rw [HMj.out, List.drop_eq_nil_of_le (by omega)]; rfl, HB2.out⟩
end Go.Proofs.YtnolfopgijgpcaaDoor.Rm
/- The walk of refs.Unmap. -/
namespace Go.Proofs.YtnolfopgijgpcaaDoor.Rm
set_option linter.unusedVariables false
open Go.Lib Go.RowKit Go.Proofs.YtnolfopgijgpcaaDoor.Nm Go.Proofs.YtnolfopgijgpcaaDoor.PRefsMapped Go.Proofs.YtnolfopgijgpcaaDoorW.PrintWords

theorem kp_four0 {w W : World} {p1 p2 p3 : Addr} {v1 v2 v3 : Value} (h1 : W.cell? p1 = some v1) (h2 : W.cell? p2 = some v2) (h3 : W.cell? p3 = some v3) (h : Below w.heap.size w W) :
    W.drew.cell? p1 = some v1 ∧ W.drew.cell? p2 = some v2 ∧ W.drew.cell? p3 = some v3 ∧ Below w.heap.size w W.drew := ⟨h1, h2, h3, pw_below_drewN h 1⟩

set_option maxRecDepth 100000 in
set_option maxHeartbeats 4000000 in
theorem progUnmap_walk (M : Nat) (hM : 2 * M ≤ big) (l : List S55) (t : ByteArray) (A : Option Addr) (c : Nat) (w : World) (hT : Hid (Lib.Utf8Tabs 0 1 w)) (hC : Hid (Kd.C k55 w A l.length l)) (hc : l.length ≤ c) (hr : Hid (Rok M l)) (ht : t.size ≤ M) :
    Calls Tryd.prog 18 #[.slice A l.length c, .string t] w fun e w' => e = backV (unmapL (rs l) (rs l) (bl t)) ∧ Below w.heap.size w w' := by
  have hm := len_max hC.out
  go_enter Tryd.func18, Tryd.ntmps18
  go_wp2_with fail
  go_loopw [17] (fun v17 wr => ∃ (i : Nat), i ≤ l.length ∧ v17 = .int .i64 i ∧ Below w.heap.size w wr ∧ unmapL (rs l) (rs l) (bl t) = unmapL (rs l) (rs (l.drop i)) (bl t)) (fun v17 _ => l.length - (intOf v17).toNat)
  case atStart => exact ⟨0, Nat.zero_le _, rfl, Below.refl _ _, by rw [List.drop_zero]⟩
  case round =>
    obtain ⟨i, hi, rfl, hb, hrec⟩ := hrel
    have HB := Lib.hid hb
    have HR := Lib.hid hrec
    clear hb hrec
    by_cases hlt : i < l.length
    · have hu := hr.out l[i] (List.getElem_mem hlt)
      obtain ⟨ad, rfl, h0, h1, h2, h3⟩ := rule_at (Kd.C_below hC.out HB.out) i hlt
      have hfd := unmap_drop (rs l) l i hlt (bl t)
      obtain ⟨u, hu0⟩ : ∃ u, l[i] = u := ⟨_, rfl⟩
      rw [hu0] at h0 h1 h2 h3 hu hfd
      go_upto_region 4 with fail
      clear h0 h1 h2 h3
      have hu0' : u.f0.size ≤ big := by omega
      have hu1' : u.f1.size ≤ big := by omega
      go_cut [8, 9] from 19 to 64 (fun v8 v9 wx => ∃ p q : Nat, v8 = .pointer (some ⟨p, 0, none⟩) ∧ v9 = .pointer (some ⟨q, 0, none⟩) ∧ Below w.heap.size w wx ∧
        wx.cell? ⟨wr.heap.size, 3, none⟩ = some (.bool u.f3) ∧
        wx.cell? ⟨p, 0, none⟩ = some (.string (mk (ahd (bl u.f0)))) ∧ wx.cell? ⟨p, 1, none⟩ = some (.string (mk (bhd (bl u.f0)))) ∧ wx.cell? ⟨p, 2, none⟩ = some (.bool (hasStar (bl u.f0))) ∧
        wx.cell? ⟨q, 0, none⟩ = some (.string (mk (ahd (bl u.f1)))) ∧ wx.cell? ⟨q, 1, none⟩ = some (.string (mk (bhd (bl u.f1)))) ∧ wx.cell? ⟨q, 2, none⟩ = some (.bool (hasStar (bl u.f1))))
      case first =>
        go_region_held3 (fun w' => w'.cell? ⟨wr.heap.size, 0, none⟩ = some (.string u.f0) ∧ w'.cell? ⟨wr.heap.size, 1, none⟩ = some (.string u.f1)) (first | (constructor <;> (simp [go_sem]; done)) | (constructor <;> (go_simp; done)))
          (first | (go_at_call 32; refine Calls.mono (split_exact _ _ ?hsz) ?_; (case hsz => (first | exact hu0' | exact hu1')); rintro e w' ⟨rfl, n, rfl⟩))
        all_goals (go_wp2_with fail; go_meet)
        all_goals
          case rel =>
            refine ⟨_, _, rfl, rfl, ?_, ?_, ?_, ?_, ?_, ?_, ?_, ?_⟩
            · have hsz := HB.out.size
              refine Below.trans HB.out ?_
              repeat' (first | with_reducible exact Below.refl _ _ | (with_reducible refine Below.alloc ?_ ?_ _) | (with_reducible refine Below.setCell ?_ ?_ _) | with_reducible refine pw_below_drewN ?_ _ | omega | (simp [go_sem]; omega))
            all_goals (simp [go_sem]; done)
      case rest =>
        obtain ⟨p, q, rfl, rfl, hBc, hx3, hp0, hp1, hp2, hq0, hq1, hq2⟩ := hcut
        have HBc := Lib.hid hBc
        have HF := Lib.hid (progFits (bl u.f1) t wc (by rw [bl_length]; omega) (by omega))
        obtain ⟨m, hm0⟩ : ∃ m, (fitsL (bl u.f1) (bl t)).1 = m := ⟨_, rfl⟩
        have hml : m.length ≤ t.size := by have := fitsL_length (bl u.f1) (bl t); rw [hm0, bl_length] at this; omega
        rw [hm0] at HF hfd
        have HFD := Lib.hid hfd
        clear hfd hm0 hBc
        cases hf : (fitsL (bl u.f1) (bl t)).2
        · have HFI := Lib.hid hf
          rw [hf] at HF
          clear hf
          go_wp2_with fail
          refine HF.out.mono ?_
          rintro e w3 ⟨rfl, hb⟩
          have hx3 := pw_cell_below hb hx3
          have HB3 := Lib.hid (HBc.out.trans (hb.mono HBc.out.size))
          clear hb
          cases hn : u.f3
          all_goals
            rw [hn] at hx3
            go_wp2_with fail
            go_roundw
          case rel => exact ⟨i + 1, by omega, by go_num, HB3.out, un_no HR.out HFD.out (backs_fit u _ HFI.out)⟩
          case measure => simp [intOf]; omega
          case rel => exact ⟨i + 1, by omega, by go_num, HB3.out, un_no HR.out HFD.out (backs_fit u _ HFI.out)⟩
          case measure => simp [intOf]; omega
        · have HFI := Lib.hid hf
          rw [hf] at HF
          clear hf
          go_wp2_with fail
          refine HF.out.mono ?_
          rintro e w3 ⟨rfl, hb⟩
          have hx3 := pw_cell_below hb hx3
          have hy0 := pw_cell_below hb hp0
          have hy1 := pw_cell_below hb hp1
          have hy2 := pw_cell_below hb hp2
          have hyq := pw_cell_below hb hq2
          have HB3 := Lib.hid (HBc.out.trans (hb.mono HBc.out.size))
          clear hb hp0 hp1 hp2 hq0 hq1 hq2
          have HPT := fun W => Lib.hid (progPut (bl u.f0) (mk m) W (by rw [bl_length]; omega) (by rw [mk_size]; omega))
          rw [bl_mk] at HPT
          cases hn : u.f3
          · rw [hn] at hx3
            have HN := Lib.hid hn
            clear hn
            obtain ⟨st, hst⟩ : ∃ st, hasStar (bl u.f0) = st := ⟨_, rfl⟩
            obtain ⟨sd, hsd⟩ : ∃ sd, hasStar (bl u.f1) = sd := ⟨_, rfl⟩
            rw [hst] at hy2 HPT
            rw [hsd] at hyq
            have HST := Lib.hid hst
            have HSD := Lib.hid hsd
            have HPT' := HPT
            clear hst hsd HPT
            by_cases hss : st = sd
            · subst hss
              have HP : Hid ((!u.f3 && (hasStar (bl u.f0) == hasStar (bl u.f1))) = true) := Lib.hid (by rw [HN.out, HST.out, HSD.out]; cases st <;> rfl)
              clear HST HSD
              go_wp2_with fail
              refine (HPT' _).out.mono ?_
              rintro e w4 ⟨rfl, hb⟩
              have hy0 := pw_cell_below hb hy0
              have hy1 := pw_cell_below hb hy1
              have hy2 := pw_cell_below hb hy2
              have HB4 := Lib.hid (HB3.out.trans (hb.mono HB3.out.size))
              clear hb
              obtain ⟨y, hy⟩ : ∃ y, putL (bl u.f0) m = y := ⟨_, rfl⟩
              have hyl : y.length ≤ big := by have := putL_length (bl u.f0) m; rw [hy, bl_length] at this; omega
              rw [hy] at HFD HPT'
              rw [hy]
              clear hy
              have HMP := Lib.hid (progMap_walk M (by omega) l (mk y) (some ad) c w4 (Lib.hid (tabs_below hT.out HB4.out)) (Lib.hid (Kd.C_below hC.out HB4.out)) hc hr (by rw [mk_size]; exact hyl))
              rw [bl_mk] at HMP
              go_wp2_with fail
              refine HMP.out.mono ?_
              rintro e w5 ⟨rfl, hb5⟩
              have hy0 := pw_cell_below hb5 hy0
              have hy1 := pw_cell_below hb5 hy1
              have hy2 := pw_cell_below hb5 hy2
              have HB5 := Lib.hid (HB4.out.trans (hb5.mono HB4.out.size))
              clear hb5 HMP
              obtain ⟨z, hz⟩ : ∃ z, mapL (rs l) y = z := ⟨_, rfl⟩
              rw [hz] at HFD
              rw [hz]
              clear hz
              obtain ⟨z1, z2, z3⟩ := z
              unfold mapV
              cases z3
              · go_wp2_with fail
                go_roundw
                case rel => exact ⟨i + 1, by omega, by go_num, HB5.out, un_on HR.out HFD.out (backs_yes u _ HFI.out HP.out) rfl⟩
                case measure => simp [intOf]; omega
              · cases hq : (z1 == bl t)
                · have hq2 : ((mk z1).toList == t.toList) = false := by rw [eq_bl]; exact hq
                  have HQ := Lib.hid hq
                  clear hq
                  go_wp2_with fail
                  go_roundw
                  case rel => exact ⟨i + 1, by omega, by go_num, HB5.out, un_on HR.out HFD.out (backs_yes u _ HFI.out HP.out) (by rw [HQ.out]; rfl)⟩
                  case measure => simp [intOf]; omega
                · have hq2 : ((mk z1).toList == t.toList) = true := by rw [eq_bl]; exact hq
                  have HQ := Lib.hid hq
                  clear hq
                  go_wp2_with fail
                  refine (HPT' _).out.mono ?_
                  rintro e w6 ⟨rfl, hb⟩
                  have HB6 := Lib.hid (HB5.out.trans (hb.mono HB5.out.size))
                  clear hb
                  go_wp2_with fail
                  go_ret2
                  exact ⟨by rw [un_off HR.out HFD.out (backs_yes u _ HFI.out HP.out) (by rw [HQ.out]; rfl)]; rfl, HB6.out⟩
            · have HP : Hid ((!u.f3 && (hasStar (bl u.f0) == hasStar (bl u.f1))) = false) := Lib.hid (by rw [HN.out, HST.out, HSD.out]; revert hss; cases st <;> cases sd <;> simp)
              clear HST HSD
              cases st <;> cases sd <;> first | exact absurd rfl hss | skip
              all_goals
                go_wp2_with fail
                go_roundw
              case rel => exact ⟨i + 1, by omega, by go_num, HB3.out, un_no HR.out HFD.out (backs_pair u _ HP.out)⟩
              case measure => simp [intOf]; omega
              case rel => exact ⟨i + 1, by omega, by go_num, HB3.out, un_no HR.out HFD.out (backs_pair u _ HP.out)⟩
              case measure => simp [intOf]; omega
          · rw [hn] at hx3
            have HN := Lib.hid hn
            clear hn
            go_wp2_with fail
            go_roundw
            case rel => exact ⟨i + 1, by omega, by go_num, HB3.out, un_no HR.out HFD.out (backs_pair u _ (by rw [HN.out]; rfl))⟩
            case measure => simp [intOf]; omega
    · go_wp2_with fail
      go_ret2
      exact ⟨by rw [HR.out, List.drop_eq_nil_of_le (by omega)]; rfl, HB.out⟩
end Go.Proofs.YtnolfopgijgpcaaDoor.Rm
