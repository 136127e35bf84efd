/- The walk of the law RefsBack. -/
import Derived.Test.YtnolfopgijgpcaaDoorBkB
import Derived.Deep.RegionHeld3
import Derived.Deep.CutBlock
namespace Go.Proofs.YtnolfopgijgpcaaDoor.Rm
open Go.Lib Go.RowKit Go.Proofs.YtnolfopgijgpcaaDoor.Nm Go.Proofs.YtnolfopgijgpcaaDoor.PRefsMapped Go.Proofs.YtnolfopgijgpcaaDoorW.PrintWords Go.Proofs.YtnolfopgijgpcaaDoorW.PrintLast Go.Proofs.YtnolfopgijgpcaaDoorW.PrintMore
set_option linter.unusedVariables false
set_option linter.unusedSimpArgs false

set_option maxRecDepth 100000 in
set_option maxHeartbeats 8000000 in
theorem back_walk (M : Nat) (hM : 8 * M + 8 ≤ big) (l0 : List S55) (L0 : List ByteArray) (A : Option Addr) (c : Nat) (B : Option Addr) (d : Nat) (w : World) (hT : Hid (Lib.Utf8Tabs 0 1 w)) (hC0 : Kd.C k55 w A l0.length l0) (hc0 : l0.length ≤ c) (hr0 : Rok M l0)
    (hD0 : Kd.C Kd.string w B L0.length L0) (hd0 : L0.length ≤ d) (hn0 : Nok M L0) (hl0 : l0.length ≤ big) (hL0 : L0.length ≤ big) :
    Calls Tryd.prog 6 #[.agg #[.slice A l0.length c, .slice B L0.length d]] w fun e w' => e = .returned (.bool true) ∧ Below w.heap.size w w' := by
  obtain ⟨l, hl⟩ : ∃ l, l0.take 64 = l := ⟨_, rfl⟩
  obtain ⟨L, hL⟩ : ∃ L, L0.take 200 = L := ⟨_, rfl⟩
  have el : min l0.length 64 = l.length := by rw [← hl, List.length_take]; omega
  have eL : min L0.length 200 = L.length := by rw [← hL, List.length_take]; omega
  have hl64 : l.length ≤ 64 := by omega
  have hL200 : L.length ≤ 200 := by omega
  have hC : Hid (Kd.C k55 w A l.length l) := Lib.hid (by rw [← hl]; exact C_takeN hC0 64)
  have hD : Hid (Kd.C Kd.string w B L.length L) := Lib.hid (by rw [← hL]; exact C_takeN hD0 200)
  have hr : Hid (Rok M l) := Lib.hid (fun u hu => hr0 u (by rw [← hl] at hu; exact List.mem_of_mem_take hu))
  have hn : Hid (Nok M L) := Lib.hid (fun u hu => hn0 u (by rw [← hL] at hu; exact List.mem_of_mem_take hu))
  have hc : l.length ≤ c := by omega
  have hd : L.length ≤ d := by omega
  have HF := fun W => Lib.hid (few_walk A B l0.length c L0.length d W hc0 hd0 hl0 hL0)
  rw [el, eL] at HF
  have HF' := HF
  clear HF hC0 hD0 hr0 hn0 hl hL el eL
  go_enter Tryd.func6, Tryd.ntmps6
  go_wp2_with fail
  obtain ⟨wb, hwb⟩ : ∃ wb, w.alloc (.cells #[.slice A l0.length c, .slice B L0.length d] 42) = wb := ⟨_, rfl⟩
  obtain ⟨kb, hkb⟩ : ∃ kb, w.heap.size = kb := ⟨_, rfl⟩
  have hbox : Boxed wb kb (.slice A l0.length c) (.slice B L0.length d) := by subst hwb hkb; refine ⟨?_, ?_, ?_, ?_⟩ <;> simp [go_sem]
  have hBb : Below w.heap.size w wb := hwb ▸ (Below.refl _ _).alloc (Nat.le_refl _) _
  rw [hwb, hkb]
  have HKB := Lib.hid hkb
  clear hwb hkb
  refine (HF' _).out.mono ?_
  rintro e w1 ⟨rfl, hb⟩
  obtain ⟨hx0, hx1, hz0, hz1⟩ := hbox.below hb
  have HB1 := Lib.hid (hBb.trans (hb.mono hBb.size))
  clear hb hbox hBb
  go_wp2_with fail
  have hBs : Below w.heap.size w ((w1.setCell ⟨kb, 0, none⟩ (.slice A l.length c)).setCell ⟨kb, 1, none⟩ (.slice B L.length d)) := (HB1.out.setCell (by rw [← HKB.out]; exact Nat.le_refl _) _).setCell (by rw [← HKB.out]; exact Nat.le_refl _) _
  have hbx : Boxed ((w1.setCell ⟨kb, 0, none⟩ (.slice A l.length c)).setCell ⟨kb, 1, none⟩ (.slice B L.length d)) kb (.slice A l.length c) (.slice B L.length d) := by refine ⟨?_, ?_, ?_, ?_⟩ <;> simp [go_sem, hx0, hx1, hz0, hz1]
  obtain ⟨ws, hws⟩ : ∃ ws, (w1.setCell ⟨kb, 0, none⟩ (.slice A l.length c)).setCell ⟨kb, 1, none⟩ (.slice B L.length d) = ws := ⟨_, rfl⟩
  rw [hws] at hBs hbx ⊢
  clear hws hx0 hx1 hz0 hz1
  have HBS := Lib.hid hBs
  have HBX := Lib.hid hbx
  clear hBs hbx HB1
  refine (right_walk _ (tabs_below hT.out HBS.out)).mono ?_
  rintro e w2 ⟨rfl, hb⟩
  have HB2 := Lib.hid (HBS.out.trans (hb.mono HBS.out.size))
  have HX2 := Lib.hid (HBX.out.below hb)
  have HT2 := Lib.hid (tabs_below hT.out HB2.out)
  have HC2 := Lib.hid (Kd.C_below hC.out HB2.out)
  have HD2 := Lib.hid (Kd.C_below hD.out HB2.out)
  clear hb HBS HBX hT hC hD
  go_wp2_with fail
  go_loopw [5, 3, 4] (fun v5 v3 v4 wr => ∃ (i : Nat) (r : By × Bool), i ≤ L.length ∧ v5 = .int .i64 i ∧ v3 = .string (mk r.1) ∧ v4 = .bool r.2 ∧ Below w2.heap.size w2 wr ∧ Least (Bad (tgt l) (L.take i)) r) (fun v5 _ _ _ => L.length - (intOf v5).toNat)
  case atStart => exact ⟨0, ([], false), Nat.zero_le _, rfl, rfl, rfl, Below.refl _ _, .inl ⟨rfl, rfl, fun t => by rw [List.take_zero]; exact Bad.nil _ t⟩⟩
  case round =>
    obtain ⟨i, ⟨r1, r2⟩, hi, rfl, rfl, rfl, hb, hl⟩ := hrel
    have HB := Lib.hid hb
    have HL := Lib.hid hl
    clear hb hl
    by_cases hlt : i < L.length
    · have hu := hn.out L[i] (List.getElem_mem hlt)
      obtain ⟨ad, rfl, g0⟩ := name_at HD2.out i hlt
      have htk := List.take_succ_eq_append_getElem hlt
      have hli : (L.take i).length = i := by rw [List.length_take]; omega
      obtain ⟨n, hn0⟩ : ∃ n, L[i] = n := ⟨_, rfl⟩
      rw [hn0] at g0 hu htk
      have HN := Lib.hid hn0
      have HTK := Lib.hid htk
      have HK := Lib.hid (sees HX2.out g0)
      have HG0 := Lib.hid g0
      clear hn0 htk g0
      have qi0 : (0 : Int) ≤ (i : Int) := by omega
      have qi1 : (i : Int) < (L.length : Int) := by omega
      have htg : tgt l n = if (mapL (rs l) (bl n)).2.2 = true then some (mapL (rs l) (bl n)).1 else none := rfl
      have htb := there_back (rs l) (bl n)
      have hzl := map_len M (bl n) (rs l) (rs_dst hr.out)
      have HMP := Lib.hid (fun W (hb : Below w2.heap.size w2 W) => progMap_walk M (by omega) l n A c W (Lib.hid (tabs_below HT2.out hb)) (Lib.hid (Kd.C_below HC2.out hb)) hc hr (by omega))
      obtain ⟨z, hz⟩ : ∃ z, mapL (rs l) (bl n) = z := ⟨_, rfl⟩
      rw [hz] at HMP htg htb hzl
      rw [bl_length] at hzl
      have HZ := Lib.hid hz
      clear hz
      obtain ⟨z1, z2, z3⟩ := z
      unfold mapV at HMP
      have HTB := Lib.hid htb
      have HTG := Lib.hid htg
      clear htb htg
      obtain ⟨hx0, hx1, h0, _⟩ := HK.out _ HB.out
      go_wp2_with fail
      clear hx0 hx1 h0
      go_region_held3 (fun w' => w'.cell? ⟨kb, 0, none⟩ = some (.slice A l.length c) ∧ w'.cell? ⟨kb, 1, none⟩ = some (.slice (some ad) L.length d) ∧ w'.cell? (ad.add i) = some (.string n) ∧ Below w2.heap.size w2 w')
        (first | exact kp0 HK.out HB.out | exact kp1 HK.out (by assumption) (by assumption))
        (first | (go_at_call 16; refine (HMP.out _ ?hbel).mono ?_; (case hbel => exact And.right (And.right (And.right (by assumption)))); rintro e w3 ⟨rfl, hb⟩))
      rename_i hS
      have HB3 := Lib.hid hS.2.2.2
      clear hS HMP
      go_upto_if 58 with fail
      go_cut [] from 39 to 45 (fun wx => Below w2.heap.size w2 wx)
      case first =>
        as_aux_lemma =>
          cases z3
          · go_wp2_with fail
            go_meet
            case rel => exact HB3.out
          · obtain ⟨b1, b2, b3, b4, b5⟩ := HTB.out rfl
            have hyl := unmap_len M (rs l) z1 (rs l) (rs_src hr.out)
            have HU := fun W (hb : Below w2.heap.size w2 W) => progUnmap_walk (2 * M) (by omega) l (mk z1) A c W (Lib.hid (tabs_below HT2.out hb)) (Lib.hid (Kd.C_below HC2.out hb)) hc (Lib.hid (hr.out.up (by omega))) (by rw [mk_size]; show z1.length ≤ 2 * M; have : z1.length ≤ M + n.size := hzl; omega)
            rw [bl_mk] at HU
            obtain ⟨y, hy⟩ : ∃ y, unmapL (rs l) (rs l) z1 = y := ⟨_, rfl⟩
            rw [hy] at b1 b2 b3 hyl HU
            clear hy
            obtain ⟨y1, y2⟩ := y
            obtain rfl : y2 = true := b1
            have hzl' : z1.length ≤ M + n.size := hzl
            have hyl' : y1.length ≤ M + z1.length := hyl
            have HV := fun W (hb : Below w2.heap.size w2 W) => progMap_walk M (by omega) l (mk y1) A c W (Lib.hid (tabs_below HT2.out hb)) (Lib.hid (Kd.C_below HC2.out hb)) hc hr (by rw [mk_size]; omega)
            rw [bl_mk] at HV
            obtain ⟨v, hv⟩ : ∃ v, mapL (rs l) y1 = v := ⟨_, rfl⟩
            have b2 : (mapL (rs l) y1).2.2 = true := b2
            have b3 : (mapL (rs l) y1).1 = z1 := b3
            rw [hv] at b2 b3 HV
            clear hv
            obtain ⟨v1, v2, v3⟩ := v
            obtain rfl : v3 = true := b2
            obtain rfl : v1 = z1 := b3
            have HCA := fun W (hb : Below w2.heap.size w2 W) => check_walk (mk v1) W (by rw [mk_size]; unfold big at *; omega) (tabs_below HT2.out hb)
            have HCN := fun W (hb : Below w2.heap.size w2 W) => check_walk n W (by unfold big at *; omega) (tabs_below HT2.out hb)
            rw [bl_mk, b4, show ans true = 0 from rfl] at HCA
            rw [b5, show ans true = 0 from rfl] at HCN
            unfold backV at HU
            unfold mapV at HV
            have HU' := Lib.hid HU
            have HV' := Lib.hid HV
            have HCA' := Lib.hid HCA
            have HCN' := Lib.hid HCN
            clear HU HV HCA HCN b4 b5 hyl hzl
            obtain ⟨hx0, hx1, h0, _⟩ := HK.out _ HB3.out
            go_wp2_with fail
            refine (HU'.out _ HB3.out).mono ?_
            rintro e w4 ⟨rfl, hb⟩
            have HB4 := Lib.hid (HB3.out.trans (hb.mono HB3.out.size))
            clear hb hx0 hx1 h0
            obtain ⟨hx0, hx1, h0, _⟩ := HK.out _ HB4.out
            go_wp2_with fail
            refine (HV'.out _ HB4.out).mono ?_
            rintro e w5 ⟨rfl, hb⟩
            have HB5 := Lib.hid (HB4.out.trans (hb.mono HB4.out.size))
            clear hb hx0 hx1 h0
            obtain ⟨hx0, hx1, h0, _⟩ := HK.out _ HB5.out
            go_wp2_with fail
            refine (HCA'.out _ HB5.out).mono ?_
            rintro e w6 ⟨rfl, hb⟩
            have HB6 := Lib.hid (HB5.out.trans (hb.mono HB5.out.size))
            clear hb hx0 hx1 h0
            obtain ⟨hx0, hx1, h0, _⟩ := HK.out _ HB6.out
            go_wp2_with fail
            refine (num_any _ _).mono ?_
            rintro e w' ⟨rfl, rfl⟩
            go_wp2_with fail
            refine (HCN'.out _ HB6.out).mono ?_
            rintro e w7 ⟨rfl, hb⟩
            have HB7 := Lib.hid (HB6.out.trans (hb.mono HB6.out.size))
            clear hb hx0 hx1 h0
            go_wp2_with fail
            refine (num_any _ _).mono ?_
            rintro e w' ⟨rfl, rfl⟩
            go_wp2_with fail
            go_meet
            case rel => exact HB7.out
      case rest =>
        have HB4 := Lib.hid hcut
        clear hcut HB3
        have htb := unmap_spec (rs l) (bl n) (rs l)
        have hyl := unmap_len M (rs l) (bl n) (rs l) (rs_src hr.out)
        have HU := fun W (hb : Below w2.heap.size w2 W) => progUnmap_walk (2 * M) (by omega) l n A c W (Lib.hid (tabs_below HT2.out hb)) (Lib.hid (Kd.C_below HC2.out hb)) hc (Lib.hid (hr.out.up (by omega))) (by omega)
        obtain ⟨y, hy⟩ : ∃ y, unmapL (rs l) (rs l) (bl n) = y := ⟨_, rfl⟩
        rw [hy] at htb hyl HU
        rw [bl_length] at hyl
        clear hy
        obtain ⟨y1, y2⟩ := y
        have hyl' : y1.length ≤ M + n.size := hyl
        have HV := fun W (hb : Below w2.heap.size w2 W) => progMap_walk M (by omega) l (mk y1) A c W (Lib.hid (tabs_below HT2.out hb)) (Lib.hid (Kd.C_below HC2.out hb)) hc hr (by rw [mk_size]; omega)
        rw [bl_mk] at HV
        have htb : y2 = true → (mapL (rs l) y1).2.2 = true ∧ (mapL (rs l) y1).1 = bl n := htb
        obtain ⟨v, hv⟩ : ∃ v, mapL (rs l) y1 = v := ⟨_, rfl⟩
        rw [hv] at htb HV
        clear hv
        obtain ⟨v1, v2, v3⟩ := v
        unfold backV at HU
        unfold mapV at HV
        have HU' := Lib.hid HU
        have HV' := Lib.hid HV
        have HSP := Lib.hid htb
        clear HU HV htb hyl
        go_wp2_with fail
        go_region_held3 (fun w' => w'.cell? ⟨kb, 0, none⟩ = some (.slice A l.length c) ∧ w'.cell? ⟨kb, 1, none⟩ = some (.slice (some ad) L.length d) ∧ w'.cell? (ad.add i) = some (.string n) ∧ Below w2.heap.size w2 w')
          (first | exact kp0 HK.out HB4.out | exact kp1 HK.out (by assumption) (by assumption))
          (first | (go_at_call 18; refine (HU'.out _ ?hbel).mono ?_; (case hbel => exact And.right (And.right (And.right (by assumption)))); rintro e w3 ⟨rfl, hb⟩))
        rename_i hS
        have HB5 := Lib.hid hS.2.2.2
        clear hS HU'
        obtain ⟨hx0, hx1, h0, _⟩ := HK.out _ HB5.out
        go_wp2_with fail
        refine (HV'.out _ HB5.out).mono ?_
        rintro e w5 ⟨rfl, hb⟩
        have HB6 := Lib.hid (HB5.out.trans (hb.mono HB5.out.size))
        clear hb hx0 hx1 h0
        go_upto_region 16 with fail
        go_cut [133] from 120 to 132 (fun v133 wx => v133 = .bool false ∧ Below w2.heap.size w2 wx)
        case first =>
          as_aux_lemma =>
            obtain ⟨hx0, hx1, h0, _⟩ := HK.out _ HB6.out
            cases y2
            · go_wp2_with fail
              go_meet
              case rel => exact ⟨rfl, HB6.out⟩
            · obtain ⟨e1, e2⟩ := HSP.out rfl
              have e1 : v3 = true := e1
              have e2 : v1 = bl n := e2
              subst e1 e2
              rw [mk_bl]
              go_wp2_with fail
              go_meet
              case rel => exact ⟨rfl, HB6.out⟩
        case rest =>
          obtain ⟨rfl, hb⟩ := hcut
          have HB7 := Lib.hid hb
          clear hb HB6 HB5 HB4 HSP HV'
          go_upto_block 2 with fail
          go_cut [3, 4] from 134 to 182 (fun v3 v4 wx => ∃ r : By × Bool, v3 = .string (mk r.1) ∧ v4 = .bool r.2 ∧ Below w2.heap.size w2 wx ∧ Least (Bad (tgt l) (L.take (i + 1))) r)
          case first =>
            as_aux_lemma =>
              cases z3
              · have htn : tgt l n = none := HTG.out
                have HST := Lib.hid (HL.out.congr fun t => Bad.skip _ _ _ htn t)
                go_wp2_with fail
                go_loopw [19, 3, 4] (fun v19 v3 v4 wx => v19 = .int .i64 0 ∧ v3 = .string (mk r1) ∧ v4 = .bool r2 ∧ Below w2.heap.size w2 wx) (fun _ _ _ _ => 0)
                case atStart => exact ⟨rfl, rfl, rfl, HB7.out⟩
                case round =>
                  obtain ⟨rfl, rfl, rfl, hb⟩ := hrel
                  have HBx := Lib.hid hb
                  clear hb
                  by_cases hi0 : 0 < i
                  · go_wp2_with fail
                    go_meet
                    case rel => exact ⟨(r1, r2), rfl, rfl, HBx.out, by rw [HTK.out]; exact HST.out⟩
                  · go_wp2_with fail
                    go_meet
                    case rel => exact ⟨(r1, r2), rfl, rfl, HBx.out, by rw [HTK.out]; exact HST.out⟩
              · have htn : tgt l n = some z1 := HTG.out
                have HTN := Lib.hid htn
                clear htn
                go_wp2_with fail
                go_loopw [19, 3, 4] (fun v19 v3 v4 wx => ∃ (k : Nat) (r : By × Bool), k ≤ i ∧ v19 = .int .i64 k ∧ v3 = .string (mk r.1) ∧ v4 = .bool r.2 ∧ Below w2.heap.size w2 wx ∧ Least (BadK (tgt l) (L.take i) k n z1) r) (fun v19 _ _ _ => i - (intOf v19).toNat)
                case atStart => exact ⟨0, (r1, r2), Nat.zero_le _, rfl, rfl, rfl, HB7.out, HL.out.congr fun t => BadK.zero _ _ _ _ t⟩
                case round =>
                  clear HL HB7
                  obtain ⟨k, ⟨q1, q2⟩, hk, rfl, rfl, rfl, hb3, hl3⟩ := hrel
                  have HBx := Lib.hid hb3
                  have HL3 := Lib.hid hl3
                  clear hb3 hl3
                  by_cases hk2 : k < i
                  · obtain ⟨ad3, e3, g3⟩ := name_at HD2.out k (by omega)
                    obtain rfl := Option.some.inj e3
                    have hkl : k < (L.take i).length := by omega
                    have ek : (L.take i)[k] = L[k] := List.getElem_take
                    have NC := fun hx => no_clash HL3.out hkl hx
                    have AC := fun hx => a_clash HL3.out hkl hx
                    rw [ek] at NC AC
                    have hua := hn.out L[k] (List.getElem_mem (by omega))
                    have hta : tgt l L[k] = if (mapL (rs l) (bl L[k])).2.2 = true then some (mapL (rs l) (bl L[k])).1 else none := rfl
                    obtain ⟨a, ha⟩ : ∃ a, L[k] = a := ⟨_, rfl⟩
                    rw [ha] at g3 hta NC AC hua
                    clear ha ek e3
                    have HMA := fun W (hb : Below w2.heap.size w2 W) => progMap_walk M (by omega) l a A c W (Lib.hid (tabs_below HT2.out hb)) (Lib.hid (Kd.C_below HC2.out hb)) hc hr (by omega)
                    obtain ⟨y, hy⟩ : ∃ y, mapL (rs l) (bl a) = y := ⟨_, rfl⟩
                    rw [hy] at hta HMA
                    clear hy
                    obtain ⟨y1, y2, y3⟩ := y
                    unfold mapV at HMA
                    have HMA' := Lib.hid HMA
                    have HNC := Lib.hid NC
                    have HAC := Lib.hid AC
                    have HKA := Lib.hid (sees HX2.out g3)
                    have HTA := Lib.hid hta
                    clear NC AC HMA g3 hta
                    have qk0 : (0 : Int) ≤ (k : Int) := by omega
                    have qk1 : (k : Int) < (L.length : Int) := by omega
                    obtain ⟨hx0, hx1, h1, _⟩ := HKA.out _ HBx.out
                    go_wp2_with fail
                    clear hx0 hx1 h1
                    go_region_held3 (fun w' => w'.cell? ⟨kb, 0, none⟩ = some (.slice A l.length c) ∧ w'.cell? ⟨kb, 1, none⟩ = some (.slice (some ad) L.length d) ∧ w'.cell? (ad.add k) = some (.string a) ∧ Below w2.heap.size w2 w')
                      (first | exact kp0 HKA.out HBx.out | exact kp1 HKA.out (by assumption) (by assumption))
                      (first | (go_at_call 16; refine (HMA'.out _ ?hbel).mono ?_; (case hbel => exact And.right (And.right (And.right (by assumption)))); rintro e w3 ⟨rfl, hb⟩))
                    rename_i hS
                    have HBy := Lib.hid hS.2.2.2
                    clear hS HMA'
                    obtain ⟨hx0, hx1, h1, _⟩ := HKA.out _ HBy.out
                    obtain ⟨_, _, h0, _⟩ := HK.out _ HBy.out
                    cases y3
                    · have hta : tgt l a = none := HTA.out
                      have HST := Lib.hid (HNC.out (by rw [hta]; simp))
                      clear hta
                      go_wp2_with fail
                      go_quiet (fail)
                      go_wp2_with fail
                      go_roundw
                      case rel => exact ⟨k + 1, (q1, q2), by omega, by go_num, rfl, rfl, pw_below_drewN HBy.out _, HST.out⟩
                      case measure => simp [intOf]; omega
                    · have hta : tgt l a = some y1 := HTA.out
                      cases qt : ((mk y1).toList == (mk z1).toList)
                      · have HST := Lib.hid (HNC.out (by rw [hta]; rintro ⟨e, _⟩; rw [Option.some.inj e] at qt; simp at qt))
                        clear hta
                        go_wp2_with fail
                        go_quiet (fail)
                        go_wp2_with fail
                        go_roundw
                        case rel => exact ⟨k + 1, (q1, q2), by omega, by go_num, rfl, rfl, pw_below_drewN HBy.out _, HST.out⟩
                        case measure => simp [intOf]; omega
                      · have ey : y1 = z1 := mk_inj (toList_inj qt)
                        cases qn : (a.toList == n.toList)
                        · have hcl : tgt l a = some z1 ∧ a ≠ n := ⟨by rw [hta, ey], fun e => by rw [e] at qn; simp at qn⟩
                          have HST := Lib.hid (HAC.out hcl)
                          clear hcl hta ey
                          cases q2
                          · have HST : Hid (Least (BadK (tgt l) (L.take i) (k + 1) n z1) (z1, true)) := HST
                            go_wp2_with fail
                            go_quiet (fail)
                            go_wp2_with fail
                            go_roundw
                            case rel => exact ⟨k + 1, (z1, true), by omega, by go_num, rfl, rfl, pw_below_drewN HBy.out _, HST.out⟩
                            case measure => simp [intOf]; omega
                          · cases hbl : Op.bytesLess z1 q1
                            · have hbl2 : Op.bytesLess (mk z1).toList (mk q1).toList = false := by rw [toList_bl, toList_bl, bl_mk, bl_mk]; exact hbl
                              rw [hbl] at HST
                              have HST : Hid (Least (BadK (tgt l) (L.take i) (k + 1) n z1) (q1, true)) := HST
                              clear hbl
                              go_wp2_with fail
                              go_quiet (fail)
                              go_wp2_with fail
                              go_roundw
                              case rel => exact ⟨k + 1, (q1, true), by omega, by go_num, rfl, rfl, pw_below_drewN HBy.out _, HST.out⟩
                              case measure => simp [intOf]; omega
                            · have hbl2 : Op.bytesLess (mk z1).toList (mk q1).toList = true := by rw [toList_bl, toList_bl, bl_mk, bl_mk]; exact hbl
                              rw [hbl] at HST
                              have HST : Hid (Least (BadK (tgt l) (L.take i) (k + 1) n z1) (z1, true)) := HST
                              clear hbl
                              go_wp2_with fail
                              go_quiet (fail)
                              go_wp2_with fail
                              go_roundw
                              case rel => exact ⟨k + 1, (z1, true), by omega, by go_num, rfl, rfl, pw_below_drewN HBy.out _, HST.out⟩
                              case measure => simp [intOf]; omega
                        · have HST := Lib.hid (HNC.out (by rintro ⟨_, e⟩; exact e (toList_inj qn)))
                          clear hta ey
                          go_wp2_with fail
                          go_quiet (fail)
                          go_wp2_with fail
                          go_roundw
                          case rel => exact ⟨k + 1, (q1, q2), by omega, by go_num, rfl, rfl, pw_below_drewN HBy.out _, HST.out⟩
                          case measure => simp [intOf]; omega
                  · have hkk : k = i := by omega
                    have HST : Hid (Least (Bad (tgt l) (L.take i ++ [n])) (q1, q2)) := Lib.hid (HL3.out.congr fun t => by rw [BadK.all _ _ _ HTN.out t, hli, hkk])
                    clear hkk HL3
                    go_wp2_with fail
                    go_meet
                    case rel => exact ⟨(q1, q2), rfl, rfl, HBx.out, by rw [HTK.out]; exact HST.out⟩
          case rest =>
            obtain ⟨⟨q1, q2⟩, rfl, rfl, hb, hl⟩ := hcut
            have HB8 := Lib.hid hb
            have HL8 := Lib.hid hl
            clear hb hl HB7 HL
            have HRW : Hid (∀ W, Below w2.heap.size w2 W → Calls Tryd.prog 15 #[.slice A l.length c] W fun e w' => ∃ Ao co, e = .returned (.slice Ao l.length co) ∧ Kd.R k55 55 w' w2.heap.size (fun _ => True) (.slice Ao l.length co) l ∧ Below W.heap.size W w') :=
              Lib.hid (fun W hb => (rules_walk A c l W (Kd.C_below HC2.out hb) hc hl64).mono (fun e w' ⟨Ao, co, he, hR, hb'⟩ => ⟨Ao, co, he, rules_front hR hb.size, hb'⟩))
            obtain ⟨u, hu0⟩ : ∃ u : S55, (⟨n, ⟨#[]⟩, false, true⟩ : S55) = u := ⟨_, rfl⟩
            have ucells : u.f0 = n ∧ u.f1 = ⟨#[]⟩ ∧ u.f2 = false ∧ u.f3 = true := by subst hu0; exact ⟨rfl, rfl, rfl, rfl⟩
            have hrs : rs (l ++ [u]) = rs l ++ [⟨bl n, bl ⟨#[]⟩, false, true⟩] := by subst hu0; rw [rs, List.map_append]; rfl
            have HRS := Lib.hid hrs
            have HUC := Lib.hid ucells
            clear hrs hu0 ucells
            go_upto_region 24 with fail
            go_cut [23] from 183 to 193 (fun v23 wx => ∃ As cs, v23 = .slice As (l ++ [u]).length cs ∧ (l ++ [u]).length ≤ cs ∧ Below w2.heap.size w2 wx ∧ Kd.C k55 wx As (l ++ [u]).length (l ++ [u]))
            case first =>
              as_aux_lemma =>
                go_region_held3 (fun w' => w'.cell? ⟨kb, 0, none⟩ = some (.slice A l.length c) ∧ w'.cell? ⟨kb, 1, none⟩ = some (.slice (some ad) L.length d) ∧ w'.cell? (ad.add i) = some (.string n) ∧ Below w2.heap.size w2 w')
                  (first | exact kp0 HK.out HB8.out | exact kp2 HK.out (by assumption) | exact kp1 HK.out (by assumption) (by assumption) | exact HK.out _ (by assumption))
                  (first
                    | (refine Kd.R_append_rows_step k55 (w0 := w2) w2.heap.size (by rfl) (.tmp 185) (.tmp 192) 39 55 (.agg #[(.string ⟨#[]⟩), (.string ⟨#[]⟩), (.bool false), (.bool false)]) 40 (by rfl) Tryd.underlying39 info55 rfl (by decide) (by omega) _ l [u] _ 1 1 (fun _ => True) (fun _ => False) (by rfl) (by rfl) ?aO ?aR (fun _ _ h => h) (fun _ h => h.elim) (fun _ _ => trivial) ?aB ?aS ?aL ?_; (case aO => first | assumption | exact Kd.R_alloc (by assumption) _); (case aR => first | exact C_new1 HUC.out | (apply C_new2 HUC.out; (case hb => assumption); (case e => rfl))); (case aB => exact And.right (And.right (And.right (by assumption)))); (case aS => exact Below.size (And.right (And.right (And.right (by assumption))))); (case aL => show (l.length + 1) * 40 ≤ _; omega); intro v1 w5 ho hb5 hg hat)
                    | (go_at_call 15; refine (HRW.out _ ?hbel).mono ?_; (case hbel => exact And.right (And.right (And.right (by assumption)))); rintro e w3 ⟨Ao, co, rfl, hR, hb⟩))
                all_goals (go_wp2_with fail; go_meet)
                all_goals
                  case rel => exact R_out (by assumption) (And.right (And.right (And.right (by assumption))))
            case rest =>
              obtain ⟨As, cs, rfl, hcs, hb, hCn⟩ := hcut
              have HB9 := Lib.hid hb
              have hml := map_len M (bl n) (rs (l ++ [u])) (rs_dst (Rok_snoc hr.out (by rw [HUC.out.1]; exact hu) (by rw [HUC.out.2.1]; exact Nat.zero_le _)))
              have HMN := Lib.hid (progMap_walk M (by omega) (l ++ [u]) n As cs wc (Lib.hid (tabs_below HT2.out hb)) (Lib.hid hCn) hcs (Lib.hid (Rok_snoc hr.out (by rw [HUC.out.1]; exact hu) (by rw [HUC.out.2.1]; exact Nat.zero_le _))) (by omega))
              have hlo := left_out (rs l) (bl n) (bl ⟨#[]⟩) false
              rw [← HRS.out] at hlo
              obtain ⟨z, hz⟩ : ∃ z, mapL (rs (l ++ [u])) (bl n) = z := ⟨_, rfl⟩
              rw [hz] at HMN hlo
              clear hz hml
              obtain ⟨x1, x2, x3⟩ := z
              have HLO := Lib.hid (show hasStar (bl n) = false → x3 = false from hlo)
              unfold mapV at HMN
              clear hlo hCn HRW hb HB8
              obtain ⟨N1, hN1⟩ : ∃ N, (l ++ [u]).length = N := ⟨_, rfl⟩
              rw [hN1] at HMN
              rw [hN1]
              clear hN1 hcs
              obtain ⟨hx0, hx1, h0, _⟩ := HK.out _ HB9.out
              go_wp2_with fail
              refine HMN.out.mono ?_
              rintro e w3 ⟨rfl, hb⟩
              have HB10 := Lib.hid (HB9.out.trans (hb.mono HB9.out.size))
              clear hb hx0 hx1 h0 HMN
              go_wp2_with fail
              go_loopw [27, 28] (fun v27 v28 wr => ∃ k : Nat, k ≤ n.size ∧ v28 = .int .i64 k ∧ v27 = .bool (st (bl n) k) ∧ Below w2.heap.size w2 wr) (fun _ v28 _ => n.size - (intOf v28).toNat)
              case atStart => exact ⟨0, Nat.zero_le _, rfl, by rw [st_zero], HB10.out⟩
              case round =>
                obtain ⟨k, hk, rfl, rfl, hb⟩ := hrel
                have HBx := Lib.hid hb
                clear hb HB10
                have hnb : n.size ≤ 288230376151711743 := by unfold big at hM; omega
                obtain ⟨hx0, hx1, h0, _⟩ := HK.out _ HBx.out
                by_cases hk2 : k < n.size
                · have hst := st_succ (bl n) k (by rw [bl_length]; exact hk2)
                  have hbyte : ((n[k]).toNat : Int) = 42 ↔ (bl n)[k]'(by rw [bl_length]; exact hk2) = 42 := byte_star n k hk2
                  have HST := Lib.hid hst
                  have HBY := Lib.hid hbyte
                  clear hst hbyte
                  obtain ⟨sk, hsk⟩ : ∃ b, st (bl n) k = b := ⟨_, rfl⟩
                  have HSK := Lib.hid hsk
                  rw [hsk]
                  clear hsk
                  cases sk
                  · go_wp2_with fail
                    go_roundw
                    case rel => exact ⟨k + 1, by omega, by go_num, by rw [HST.out, HSK.out, Bool.false_or]; exact congrArg Value.bool (byte_eq HBY.out), HBx.out⟩
                    case measure => simp [intOf]; omega
                  · go_wp2_with fail
                    go_roundw
                    case rel => exact ⟨k + 1, by omega, by go_num, by rw [HST.out, HSK.out, Bool.true_or], HBx.out⟩
                    case measure => simp [intOf]; omega
                · have hal := st_all (bl n) k (by rw [bl_length]; omega)
                  rw [hal]
                  clear hal
                  obtain ⟨sk, hsk⟩ : ∃ b, hasStar (bl n) = b := ⟨_, rfl⟩
                  have HSK := Lib.hid hsk
                  rw [hsk]
                  clear hsk
                  cases sk
                  · obtain rfl : x3 = false := HLO.out HSK.out
                    go_wp2_with fail
                    go_roundw
                    case rel => exact ⟨i + 1, (q1, q2), by omega, by go_num, rfl, rfl, HBx.out, HL8.out⟩
                    case measure => simp [intOf]; omega
                  · cases x3
                    · go_wp2_with fail
                      go_roundw
                      case rel => exact ⟨i + 1, (q1, q2), by omega, by go_num, rfl, rfl, HBx.out, HL8.out⟩
                      case measure => simp [intOf]; omega
                    · go_wp2_with fail
                      go_roundw
                      case rel => exact ⟨i + 1, (q1, q2), by omega, by go_num, rfl, rfl, HBx.out, HL8.out⟩
                      case measure => simp [intOf]; omega
    · as_aux_lemma =>
      have hil : i = L.length := by omega
      have HLL : Hid (Least (Bad (tgt l) L) (r1, r2)) := Lib.hid (by have h := HL.out; rwa [List.take_of_length_le (by omega)] at h)
      obtain ⟨hx0, hx1, _, _⟩ := HX2.out.below HB.out
      have HM2 : ∀ (W : World) (hb : Below w2.heap.size w2 W) (a : Nat) (hC : Kd.C k55 W (some ⟨a, 0, none⟩) 1 [oneR]), Calls Tryd.prog 16 #[.slice (some ⟨a, 0, none⟩) 1 1, .string ⟨#[97, 122]⟩] W fun e w' => e = .returned (.tuple #[.string ⟨#[98, 122]⟩, .bool true, .bool true]) ∧ Below W.heap.size W w' := fun W hb a hC =>
        (progMap_walk 8 (by unfold big; omega) [oneR] ⟨#[97, 122]⟩ (some ⟨a, 0, none⟩) 1 W (Lib.hid (tabs_below HT2.out hb)) (Lib.hid hC) (Nat.le_refl _) (Lib.hid (fun u hu => by rw [List.mem_singleton.1 hu]; decide)) (by unfold big; decide)).mono (fun e w' ⟨he, hb'⟩ => ⟨by rw [he, one_map]; rfl, hb'⟩)
      have hB1 : ∀ o, Below w2.heap.size w2 (wr.alloc o) := fun o => below_alloc HB.out o
      have HB1' := Lib.hid hB1
      clear hB1 HL hil
      go_wp2_with fail
      refine (HM2 _ (HB1'.out _) _ (one_cells (Below.refl _ _))).mono ?_
      rintro e w3 ⟨rfl, hb⟩
      have HB3 := Lib.hid ((HB1'.out _).trans (hb.mono (HB1'.out _).size))
      clear hb hx0 hx1 HM2 HB1'
      obtain ⟨hx0, hx1, _, _⟩ := HX2.out.below HB3.out
      have H1 := Lib.hid (progClash_walk M (by omega) l L A c B d w3 (Lib.hid (tabs_below HT2.out HB3.out)) (Lib.hid (Kd.C_below HC2.out HB3.out)) hc hr (Lib.hid (Kd.C_below HD2.out HB3.out)) hd hn)
      unfold clashV at H1
      go_wp2_with fail
      refine H1.out.mono ?_
      rintro e w4 ⟨r', rfl, hle, hb⟩
      obtain rfl := hle.unique HLL.out
      have HB4 := Lib.hid (HB2.out.trans ((HB3.out.trans (hb.mono HB3.out.size)).mono HB2.out.size))
      clear hb hle H1 HLL hx0 hx1
      cases r2
      all_goals
        go_wp2_with fail
        go_ret
        exact ⟨rfl, HB4.out⟩
end Go.Proofs.YtnolfopgijgpcaaDoor.Rm
