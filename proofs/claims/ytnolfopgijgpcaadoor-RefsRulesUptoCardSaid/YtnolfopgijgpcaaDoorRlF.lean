/- The walk of the law RefsRules. -/
import Derived.Test.YtnolfopgijgpcaaDoorRlE
import Derived.Test.YtnolfopgijgpcaaDoorPRefsRulesx17
namespace Go.Proofs.YtnolfopgijgpcaaDoor.Rm
open Go.Lib Go.RowKit Go.Proofs.YtnolfopgijgpcaaDoor.Nm Go.Proofs.YtnolfopgijgpcaaDoor.PRefsRules Go.Proofs.YtnolfopgijgpcaaDoorW.PrintWords Go.Proofs.YtnolfopgijgpcaaDoorW.PrintLast Go.Proofs.YtnolfopgijgpcaaDoorW.PrintMore
set_option linter.unusedVariables false
set_option linter.unusedSimpArgs false

theorem same_loop (l : List S55) (hl : l.length ≤ 1099511627776) : ∀ (d i k : Nat), i ≤ l.length → l.length - i ≤ d → d + 1 ≤ k → satchellaw14_sameRules.l0 k l l (i : Int) = some true
  | d, i, 0, _, _, hk => by omega
  | d, i, k + 1, hi, hd, hk => by
    unfold satchellaw14_sameRules.l0
    by_cases h : i < l.length
    · rw [if_pos (by omega), if_pos (by omega), if_pos (by omega), if_neg (by simp), show wrap64 ((i : Int) + 1) = ((i + 1 : Nat) : Int) from by unfold wrap64; omega]
      exact same_loop l hl (d - 1) (i + 1) k (by omega) (by omega) (by omega)
    · rw [if_neg (by omega)]
theorem same_eq (l : List S55) (hl : l.length ≤ 1099511627776) : satchellaw14_sameRules.f (l.length + 1) l l = some true := by
  unfold satchellaw14_sameRules.f
  rw [if_pos rfl]
  exact same_loop l hl l.length 0 _ (by omega) (by omega) (by omega)
theorem same_walk (A0 : Option Addr) (c0 : Nat) (A1 : Option Addr) (c1 : Nat) (l : List S55) (w : World) (hl : l.length ≤ 1099511627776) (hr0 : Kd.C k55 w A0 l.length l) (hc0 : l.length ≤ c0) (hr1 : Kd.C k55 w A1 l.length l) (hc1 : l.length ≤ c1) :
    Calls Tryd.prog 27 #[.slice A0 l.length c0, .slice A1 l.length c1] w fun e w' => e = .returned (.bool true) ∧ ∃ n, w' = w.drewN n :=
  (satchellaw14_sameRules.calls _ A0 c0 l A1 c1 l true w hr0 hc0 hr1 hc1 (same_eq l hl)).mono (fun e w' ⟨h, ⟨n, hn⟩⟩ => ⟨h, n, hn⟩)
/-- What the walk asks of row k of the texts, in whatever world that keeps W. -/
def RowAt (W : World) (A : Option Addr) (k : Nat) (X : Value) (S : ByteArray) : Prop :=
  ∃ a, A = some a ∧ ∀ W', Below W.heap.size W W' → W'.cell? (a.add k) = some X ∧ (convert 27 9 X).run Tryd.prog W' = .ok (.string S) W'
/-- Rule j, at its cells. -/
theorem rule_at {w : World} {A : Option Addr} {l : List S55} (h : Kd.C k55 w A l.length l) (i : Nat) (hi : i < l.length) :
    ∃ ad, A = some ad ∧ w.cell? (ad.add (i * 4)) = some (.string l[i].f0) ∧ w.cell? ⟨(ad.add (i * 4)).block, (ad.add (i * 4)).off + 1, none⟩ = some (.string l[i].f1) ∧
      w.cell? ⟨(ad.add (i * 4)).block, (ad.add (i * 4)).off + 2, none⟩ = some (.bool l[i].f2) ∧ w.cell? ⟨(ad.add (i * 4)).block, (ad.add (i * 4)).off + 3, none⟩ = some (.bool l[i].f3) := by
  obtain ⟨ad, e, h0, h1, h2, h3⟩ := at_T55 h (i : Int) (by omega) (by omega)
  rw [Int.toNat_natCast] at h0 h1 h2 h3
  have e1 : rd_T55 l (i : Int) = l[i] := by simp [rd_T55, hi]
  rw [e1] at h0 h1 h2 h3
  exact ⟨ad, e, h0, h1, h2, h3⟩
theorem cat1 (t a b : By) : mk t ++ mk a ++ ⟨#[58]⟩ ++ mk b ++ ⟨#[10]⟩ = mk t ++ mk ((a ++ 58 :: b) ++ [10]) := by
  rw [show (⟨#[58]⟩ : ByteArray) = mk [58] from rfl, show (⟨#[10]⟩ : ByteArray) = mk [10] from rfl]
  simp only [mk_append]
  congr 1
  simp
theorem cat2 (t a b : By) : mk t ++ ⟨#[43]⟩ ++ mk a ++ ⟨#[58]⟩ ++ mk b ++ ⟨#[10]⟩ = mk t ++ mk ((43 :: (a ++ 58 :: b)) ++ [10]) := by
  rw [show (⟨#[43]⟩ : ByteArray) = mk [43] from rfl, show (⟨#[58]⟩ : ByteArray) = mk [58] from rfl, show (⟨#[10]⟩ : ByteArray) = mk [10] from rfl]
  simp only [mk_append]
  congr 1
  simp
theorem cat3 (t a : By) : mk t ++ ⟨#[94]⟩ ++ mk a ++ ⟨#[10]⟩ = mk t ++ mk ((94 :: a) ++ [10]) := by
  rw [show (⟨#[94]⟩ : ByteArray) = mk [94] from rfl, show (⟨#[10]⟩ : ByteArray) = mk [10] from rfl]
  simp only [mk_append]
  congr 1
  simp
def txt (us : List R) (j : Nat) : By := 32 :: (us.take j).flatMap (fun u => writeL u ++ [10])
theorem txt_all (us : List R) (j : Nat) (h : us.length ≤ j) : txt us j = textOf us := by unfold txt textOf; rw [List.take_of_length_le h]
theorem txt_succ (us : List R) (j : Nat) (h : j < us.length) : txt us (j + 1) = txt us j ++ (writeL us[j] ++ [10]) := by
  unfold txt
  rw [List.take_succ_eq_append_getElem h, List.flatMap_append]
  simp
theorem txt_le (us : List R) (j : Nat) : (txt us j).length ≤ (textOf us).length := by
  unfold txt textOf
  have : us = us.take j ++ us.drop j := (List.take_append_drop j us).symm
  conv => rhs; rw [this, List.flatMap_append]
  simp
theorem flat_len : ∀ ws : List By, (ws.flatMap (fun w => w ++ [10])).length = (ws.map List.length).sum + ws.length
  | [] => rfl
  | w :: ws => by
    rw [List.flatMap_cons, List.length_append, flat_len ws]
    simp
    omega
theorem text_len (s : By) : (textOf (told (wordsL [] s)).1).length ≤ s.length + 2 := by
  rcases told_cases (wordsL [] s) with h | ⟨h, h1, _⟩
  · rw [h]; simp [textOf]
  · rw [h]
    show (32 :: _).length ≤ _
    rw [write_all _ h1, List.length_cons, flat_len]
    have := words_len s []
    simp at this
    omega
theorem told_len (s : By) : (told (wordsL [] s)).1.length ≤ 64 := by
  rcases told_cases (wordsL [] s) with h | ⟨h, _, h2⟩
  · rw [h]; simp
  · rw [h]; simpa using h2
theorem abc : told (wordsL [] (bl ⟨#[97, 58, 98, 58, 99]⟩)) = ([], 141) := by
  have h : wordsL [] (bl ⟨#[97, 58, 98, 58, 99]⟩) = [[97, 58, 98, 58, 99]] := by decide +kernel
  rw [h]
  exact told_bad (ws := [[97, 58, 98, 58, 99]]) (i := 0) (by decide) (by decide +kernel)

set_option maxRecDepth 100000 in
set_option maxHeartbeats 4000000 in
theorem rulesLaw_walk (W : World) (A : Option Addr) (len cap : Nat) (hlen : len ≤ 9223372036854775807) (X : Nat → Value) (S : Nat → ByteArray) (hS : ∀ k, (S k).size ≤ 1048576)
    (hrow : Hid (∀ k, k < len → RowAt W A k (X k) (S k))) (hT : Hid (Lib.Utf8Tabs 0 1 W)) :
    Calls Tryd.prog 7 #[.agg #[.slice A len cap]] W fun e w' => e = .returned (.bool true) ∧ Below W.heap.size W w' := by
  go_enter Tryd.func7, Tryd.ntmps7
  go_wp2_with fail
  obtain ⟨wb, hwb⟩ : ∃ wb, W.alloc (.cells #[.slice A len cap] 24) = wb := ⟨_, rfl⟩
  obtain ⟨kb, hkb⟩ : ∃ kb, W.heap.size = kb := ⟨_, rfl⟩
  have hbox : wb.cell? ⟨kb, 0, none⟩ = some (.slice A len cap) := by subst hwb hkb; simp [go_sem]
  have hBb : Below W.heap.size W wb := hwb ▸ (Below.refl _ _).alloc (Nat.le_refl _) _
  rw [hwb]
  simp only [hkb]
  have HBX := Lib.hid hbox
  have HBB := Lib.hid hBb
  clear hwb hkb hbox hBb
  go_loopw [3] (fun v3 wr => ∃ k : Nat, k ≤ len ∧ v3 = .int .i64 k ∧ Below wb.heap.size wb wr) (fun v3 _ => len - (intOf v3).toNat)
  case atStart => exact ⟨0, Nat.zero_le _, rfl, Below.refl _ _⟩
  case round =>
    obtain ⟨k, hk, rfl, hb⟩ := hrel
    have HB := Lib.hid hb
    have HBW := Lib.hid (HBB.out.trans (hb.mono HBB.out.size))
    have hx0 := pw_cell_below hb HBX.out
    clear hb
    by_cases hlt : k < len
    · obtain ⟨a, rfl, ha⟩ := hrow.out k hlt
      obtain ⟨hc, hcv⟩ := ha wr HBW.out
      have HA := Lib.hid ha
      have hSk := hS k
      obtain ⟨s, hs⟩ : ∃ s, S k = s := ⟨_, rfl⟩
      obtain ⟨xk, hxk⟩ : ∃ xk, X k = xk := ⟨_, rfl⟩
      rw [hs] at hcv HA hSk
      rw [hxk] at hc hcv HA
      clear ha hs hxk
      have HP := Lib.hid (fun w (hb : Below W.heap.size W w) => progParse s w (Lib.hid (tabs_below hT.out hb)) (by omega))
      have HQ := Lib.hid (fun w => refParse s w (by omega))
      have hag := again (bl s)
      have htl := text_len (bl s)
      have htn := told_len (bl s)
      rw [bl_length] at htl
      obtain ⟨t, ht⟩ : ∃ t, told (wordsL [] (bl s)) = t := ⟨_, rfl⟩
      rw [ht] at HP HQ hag htl htn
      clear ht
      obtain ⟨us, ec⟩ := t
      have hag : told (wordsL [] (textOf us)) = (us, 0) := hag
      have htl : (textOf us).length ≤ s.size + 2 := htl
      have htn : us.length ≤ 64 := htn
      have HP2 := Lib.hid (fun w (hb : Below W.heap.size W w) => progParse (mk (textOf us)) w (Lib.hid (tabs_below hT.out hb)) (by rw [mk_size]; omega))
      rw [bl_mk, hag] at HP2
      clear hag
      obtain ⟨l, hl⟩ : ∃ l, us.map ofR = l := ⟨_, rfl⟩
      have hll : l.length = us.length := by rw [← hl, List.length_map]
      have HL := Lib.hid hl
      go_wp2_with fail
      refine (HP.out _ HBW.out).mono ?_
      rintro e w2 ⟨v0, rfl, hR, hb⟩
      have hR : Kd.R k55 55 w2 wr.heap.size (fun _ => True) v0 l := hl ▸ hR
      obtain ⟨Al, cl, rfl⟩ := Kd.R_slice hR
      have hcl := (Kd.R_reads' hR).2.1
      have HC2 := Lib.hid (Kd.R_reads' hR).2.2
      have HB2 := Lib.hid (HB.out.trans (hb.mono HB.out.size))
      have HBW2 := Lib.hid (HBW.out.trans (hb.mono HBW.out.size))
      have hx0 := pw_cell_below hb hx0
      clear hb hR HP
      obtain ⟨hc, hcv⟩ := HA.out w2 HBW2.out
      go_wp2_with fail
      refine (HQ.out _).mono ?_
      rintro e w3 ⟨v1, rfl, hR, hb⟩
      have hR : Kd.R k55 55 w3 w2.heap.size (fun _ => True) v1 l := hl ▸ hR
      obtain ⟨Am, cm, rfl⟩ := Kd.R_slice hR
      have hcm := (Kd.R_reads' hR).2.1
      have HD3 := Lib.hid (Kd.R_reads' hR).2.2
      have HC3 := Lib.hid (Kd.C_below HC2.out hb)
      have HB3 := Lib.hid (HB2.out.trans (hb.mono HB2.out.size))
      have HBW3 := Lib.hid (HBW2.out.trans (hb.mono HBW2.out.size))
      clear hb hR HQ HC2 hc hcv hx0 hl
      have hS3 := same_walk Al cl Am cm l w3 (by omega) HC3.out hcl HD3.out hcm
      rw [hll] at hS3
      have HS3 := Lib.hid hS3
      clear hS3
      go_wp2_with fail
      refine (num_any _ _).mono ?_
      rintro e w' ⟨rfl, rfl⟩
      go_wp2_with fail
      refine HS3.out.mono ?_
      rintro e w4 ⟨rfl, n4, hw4⟩
      have hb4 : Below w3.heap.size w3 w4 := hw4 ▸ pw_below_drewN (Below.refl _ _) n4
      have HC4 := Lib.hid (Kd.C_below HC3.out hb4)
      have HB4 := Lib.hid (HB3.out.trans (hb4.mono HB3.out.size))
      have HBW4 := Lib.hid (HBW3.out.trans (hb4.mono HBW3.out.size))
      clear hw4 hb4 HS3 HD3 HC3
      go_wp2_with fail
      go_loopw [9, 8] (fun v9 v8 wx => ∃ j : Nat, j ≤ us.length ∧ v9 = .int .i64 j ∧ v8 = .string (mk (txt us j)) ∧ Below w4.heap.size w4 wx) (fun v9 _ _ => us.length - (intOf v9).toNat)
      case atStart => exact ⟨0, Nat.zero_le _, rfl, by simp [txt]; rfl, Below.refl _ _⟩
      case round =>
        obtain ⟨j, hj, rfl, rfl, hb⟩ := hrel
        have HBx := Lib.hid hb
        clear hb
        by_cases hj2 : j < us.length
        · have hts := txt_succ us j hj2
          have hle := txt_le us (j + 1)
          rw [hts] at hle
          have hlj : l[j]'(by omega) = ofR us[j] := by simp only [← HL.out, List.getElem_map]
          obtain ⟨al, eA, q0, q1, q2, q3⟩ := rule_at (Kd.C_below HC4.out HBx.out) j (by omega)
          rw [hlj] at q0 q1 q2 q3
          obtain ⟨u, hu⟩ : ∃ u, us[j] = u := ⟨_, rfl⟩
          rw [hu] at q0 q1 q2 q3 hts hle
          obtain ⟨sr, ds, fo, nt⟩ := u
          obtain ⟨tj, htj⟩ : ∃ tj, txt us j = tj := ⟨_, rfl⟩
          rw [htj] at hts hle ⊢
          have HTS := Lib.hid hts
          replace q0 : wr.cell? (al.add (j * 4)) = some (.string (mk sr)) := q0
          replace q1 : wr.cell? ⟨(al.add (j * 4)).block, (al.add (j * 4)).off + 1, none⟩ = some (.string (mk ds)) := q1
          replace q2 : wr.cell? ⟨(al.add (j * 4)).block, (al.add (j * 4)).off + 2, none⟩ = some (.bool fo) := q2
          replace q3 : wr.cell? ⟨(al.add (j * 4)).block, (al.add (j * 4)).off + 3, none⟩ = some (.bool nt) := q3
          have qj0 : (0 : Int) ≤ (j : Int) := by omega
          have qj1 : (j : Int) < (us.length : Int) := by omega
          clear hu hlj htj hts
          subst eA
          cases nt
          · cases fo
            · have hle : tj.length + (sr.length + (ds.length + 1) + 1) ≤ s.size + 2 := by have h : (tj ++ ((sr ++ 58 :: ds) ++ [10])).length ≤ _ := hle; simp at h; omega
              have n0 : ¬ 9223372036854775807 < (mk tj).size + (mk sr).size := by simp only [mk_size]; omega
              have n1 : ¬ 9223372036854775807 < (mk tj).size + (mk sr).size + 1 := by simp only [mk_size]; omega
              have n2 : ¬ 9223372036854775807 < (mk tj).size + (mk sr).size + 1 + (mk ds).size := by simp only [mk_size]; omega
              have n3 : ¬ 9223372036854775807 < (mk tj).size + (mk sr).size + 1 + (mk ds).size + 1 := by simp only [mk_size]; omega
              go_wp2_with fail
              go_quiet (fail)
              go_wp2_with fail
              go_roundw
              case rel => exact ⟨j + 1, by omega, by go_num, by rw [HTS.out, ← mk_append, show writeL ⟨sr, ds, false, false⟩ = sr ++ 58 :: ds from rfl]; exact congrArg Value.string (cat1 tj sr ds), pw_below_drewN HBx.out _⟩
              case measure => simp [intOf]; omega
            · have hle : tj.length + (sr.length + (ds.length + 1) + 1 + 1) ≤ s.size + 2 := by have h : (tj ++ ((43 :: (sr ++ 58 :: ds)) ++ [10])).length ≤ _ := hle; simp at h; omega
              have n0 : ¬ 9223372036854775807 < (mk tj).size + 1 := by simp only [mk_size]; omega
              have n1 : ¬ 9223372036854775807 < (mk tj).size + 1 + (mk sr).size := by simp only [mk_size]; omega
              have n2 : ¬ 9223372036854775807 < (mk tj).size + 1 + (mk sr).size + 1 := by simp only [mk_size]; omega
              have n3 : ¬ 9223372036854775807 < (mk tj).size + 1 + (mk sr).size + 1 + (mk ds).size := by simp only [mk_size]; omega
              have n4 : ¬ 9223372036854775807 < (mk tj).size + 1 + (mk sr).size + 1 + (mk ds).size + 1 := by simp only [mk_size]; omega
              go_wp2_with fail
              go_quiet (fail)
              go_wp2_with fail
              go_roundw
              case rel => exact ⟨j + 1, by omega, by go_num, by rw [HTS.out, ← mk_append, show writeL ⟨sr, ds, true, false⟩ = 43 :: (sr ++ 58 :: ds) from rfl]; exact congrArg Value.string (cat2 tj sr ds), pw_below_drewN HBx.out _⟩
              case measure => simp [intOf]; omega
          · have hle : tj.length + (sr.length + 1 + 1) ≤ s.size + 2 := by have h : (tj ++ ((94 :: sr) ++ [10])).length ≤ _ := hle; simp at h; omega
            have n0 : ¬ 9223372036854775807 < (mk tj).size + 1 := by simp only [mk_size]; omega
            have n1 : ¬ 9223372036854775807 < (mk tj).size + 1 + (mk sr).size := by simp only [mk_size]; omega
            have n2 : ¬ 9223372036854775807 < (mk tj).size + 1 + (mk sr).size + 1 := by simp only [mk_size]; omega
            go_wp2_with fail
            go_roundw
            case rel => exact ⟨j + 1, by omega, by go_num, by rw [HTS.out, ← mk_append, show writeL ⟨sr, ds, fo, true⟩ = 94 :: sr from rfl]; exact congrArg Value.string (cat3 tj sr), HBx.out⟩
            case measure => simp [intOf]; omega
        · have hj3 : us.length ≤ j := by omega
          have hta := txt_all us j hj3
          rw [hta]
          have hbx4 := HBx.out
          have HBy := Lib.hid (HB4.out.trans (hbx4.mono HB4.out.size))
          have HWy := Lib.hid (HBW4.out.trans (hbx4.mono HBW4.out.size))
          have HC5 := Lib.hid (Kd.C_below HC4.out hbx4)
          clear hta hbx4 HBx HC4 HB4 HBW4
          go_wp2_with fail
          refine (HP2.out _ HWy.out).mono ?_
          rintro e w5 ⟨v2, rfl, hR, hb⟩
          have hR : Kd.R k55 55 w5 wr.heap.size (fun _ => True) v2 l := HL.out ▸ hR
          obtain ⟨An, cn, rfl⟩ := Kd.R_slice hR
          have hcn := (Kd.R_reads' hR).2.1
          have hS5 := same_walk An cn Al cl l w5 (by omega) (Kd.R_reads' hR).2.2 hcn (Kd.C_below HC5.out hb) hcl
          rw [hll] at hS5
          have HS5 := Lib.hid hS5
          have HB5 := Lib.hid (HBy.out.trans (hb.mono HBy.out.size))
          clear hb hR HP2 hS5 HC5
          go_wp2_with fail
          refine (num_any _ _).mono ?_
          rintro e w' ⟨rfl, rfl⟩
          go_wp2_with fail
          refine HS5.out.mono ?_
          rintro e w6 ⟨rfl, n6, rfl⟩
          go_wp2_with fail
          go_roundw
          case rel => exact ⟨k + 1, by omega, by go_num, pw_below_drewN HB5.out _⟩
          case measure => simp [intOf]; omega
    · have HP := Lib.hid (fun w (hb : Below W.heap.size W w) => progParse ⟨#[97, 58, 98, 58, 99]⟩ w (Lib.hid (tabs_below hT.out hb)) (by show 5 ≤ 1073741824; omega))
      rw [abc] at HP
      go_wp2_with fail
      refine (HP.out _ HBW.out).mono ?_
      rintro e w2 ⟨v0, rfl, hR, hb⟩
      obtain ⟨Al, cl, rfl⟩ := Kd.R_slice hR
      have HBW2 := Lib.hid (HBW.out.trans (hb.mono HBW.out.size))
      clear hb hR HP
      go_wp2_with fail
      refine (num_any _ _).mono ?_
      rintro e w' ⟨rfl, rfl⟩
      go_wp2_with fail
      go_ret
      exact ⟨rfl, HBW2.out⟩
end Go.Proofs.YtnolfopgijgpcaaDoor.Rm
