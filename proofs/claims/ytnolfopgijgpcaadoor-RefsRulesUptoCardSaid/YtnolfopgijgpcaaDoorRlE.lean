/- The walk of refs.ParseRules. -/
import Derived.Test.YtnolfopgijgpcaaDoorRlD
import Derived.Deep.CutRange
namespace Go.Proofs.YtnolfopgijgpcaaDoor.Rm
open Go.Lib Go.RowKit Go.Proofs.YtnolfopgijgpcaaDoor.Nm Go.Proofs.YtnolfopgijgpcaaDoor.PRefsRules Go.Proofs.YtnolfopgijgpcaaDoorW.PrintWords Go.Proofs.YtnolfopgijgpcaaDoorW.PrintLast Go.Proofs.YtnolfopgijgpcaaDoorW.PrintMore
set_option linter.unusedVariables false
set_option linter.unusedSimpArgs false

theorem name_at {w : World} {A : Option Addr} {L : List ByteArray} (h : Kd.C Kd.string w A L.length L) (i : Nat) (hi : i < L.length) : ∃ ad, A = some ad ∧ w.cell? (ad.add i) = some (.string L[i]) := by
  obtain ⟨ad, e, hc⟩ := Kd.at_string h (i : Int) (by omega) (by omega)
  rw [Int.toNat_natCast] at hc
  have e1 : rdOf ByteArray.empty L (i : Int) = L[i] := by simp [rdOf, hi]
  rw [e1] at hc
  exact ⟨ad, e, hc⟩
/-- A rule in a block of its own, unfrozen. -/
def Four (w : World) (k : Nat) (u : S55) : Prop := (w.cell? ⟨k, 0, none⟩ = some (.string u.f0) ∧ w.cell? ⟨k, 1, none⟩ = some (.string u.f1) ∧ w.cell? ⟨k, 2, none⟩ = some (.bool u.f2) ∧ w.cell? ⟨k, 3, none⟩ = some (.bool u.f3)) ∧
  w.frozen? ⟨k, 0, none⟩ = false ∧ w.frozen? ⟨k, 1, none⟩ = false ∧ w.frozen? ⟨k, 2, none⟩ = false ∧ w.frozen? ⟨k, 3, none⟩ = false
theorem Four.below {w w1 : World} {k : Nat} {u : S55} (h : Four w k u) (hb : Below w.heap.size w w1) : Four w1 k u := by
  have hk := World.block_lt_of_cell? w ⟨k, 0, none⟩ h.1.1
  exact ⟨⟨pw_cell_below hb h.1.1, pw_cell_below hb h.1.2.1, pw_cell_below hb h.1.2.2.1, pw_cell_below hb h.1.2.2.2⟩,
    by rw [hb.frozen hk]; exact h.2.1, by rw [hb.frozen (p := ⟨k, 1, none⟩) hk]; exact h.2.2.1, by rw [hb.frozen (p := ⟨k, 2, none⟩) hk]; exact h.2.2.2.1, by rw [hb.frozen (p := ⟨k, 3, none⟩) hk]; exact h.2.2.2.2⟩
theorem Four.lt {w : World} {k : Nat} {u : S55} (h : Four w k u) : k < w.heap.size := World.block_lt_of_cell? w ⟨k, 0, none⟩ h.1.1
def set4 (w : World) (k : Nat) (u : S55) : World := (((w.setCell ⟨k, 0, none⟩ (.string u.f0)).setCell ⟨k, 1, none⟩ (.string u.f1)).setCell ⟨k, 2, none⟩ (.bool u.f2)).setCell ⟨k, 3, none⟩ (.bool u.f3)
theorem Four.set {w : World} {k : Nat} {u : S55} (h : Four w k u) (v : S55) : Four (set4 w k v) k v := by
  obtain ⟨⟨c0, c1, c2, c3⟩, f0, f1, f2, f3⟩ := h
  unfold set4
  refine ⟨⟨?_, ?_, ?_, ?_⟩, ?_, ?_, ?_, ?_⟩ <;> simp [go_sem, c0, c1, c2, c3, f0, f1, f2, f3]
theorem set4_below {w w1 : World} {b k : Nat} (h : Below b w w1) (hk : b ≤ k) (v : S55) : Below b w (set4 w1 k v) := (((h.setCell hk _).setCell hk _).setCell hk _).setCell hk _
theorem rule_second (x : By) (hne : x ≠ []) (h94 : ∀ t, x ≠ 94 :: t) : ∃ y f, (∀ W, Calls Tryd.prog 41 #[.string (mk x), .string ⟨#[43]⟩] W fun e w' => e = .returned (.tuple #[.string (mk y), .bool f]) ∧ w' = W) ∧ ruleL x = twoL y f ∧ y.length ≤ x.length := by
  cases x with
  | nil => exact absurd rfl hne
  | cons c s =>
    have e : ruleL (c :: s) = if c = 94 then (⟨s, [], false, true⟩, goodB (putL s [120])) else if c = 43 then twoL s true else twoL (c :: s) false := rfl
    rw [e, if_neg (fun h => h94 s (by rw [h]))]
    by_cases h : c = 43
    · subst h
      exact ⟨s, true, fun W => pre_yes 43 s W, by rw [if_pos rfl], by simp⟩
    · exact ⟨c :: s, false, fun W => pre_no c 43 s W (fun e => h e.symm), by rw [if_neg h], Nat.le_refl _⟩
theorem rule_first (x : By) (hne : x ≠ []) : ∃ y f, (∀ W, Calls Tryd.prog 41 #[.string (mk x), .string ⟨#[94]⟩] W fun e w' => e = .returned (.tuple #[.string (mk y), .bool f]) ∧ w' = W) ∧
    (f = true → ruleL x = (⟨y, [], false, true⟩, goodB (putL y [120])) ∧ y.length ≤ x.length) ∧ (f = false → ∀ t, x ≠ 94 :: t) := by
  cases x with
  | nil => exact absurd rfl hne
  | cons c s =>
    have e : ruleL (c :: s) = if c = 94 then (⟨s, [], false, true⟩, goodB (putL s [120])) else if c = 43 then twoL s true else twoL (c :: s) false := rfl
    by_cases h : c = 94
    · subst h
      exact ⟨s, true, fun W => pre_yes 94 s W, fun _ => ⟨by rw [e, if_pos rfl], by simp⟩, fun h => by cases h⟩
    · exact ⟨c :: s, false, fun W => pre_no c 94 s W (fun e => h e.symm), fun h => (by cases h), fun _ t ht => h (by injection ht)⟩
theorem R_set4 {e b k : Nat} {w : World} {v : Value} {xs : List S55} (h : Kd.R k55 e w b (fun j => j ≠ k) v xs) (u : S55) : Kd.R k55 e (set4 w k u) b (fun j => j ≠ k) v xs := by
  unfold set4
  exact Kd.R_far (p := ⟨k, 3, none⟩) (Kd.R_far (p := ⟨k, 2, none⟩) (Kd.R_far (p := ⟨k, 1, none⟩) (Kd.R_far (p := ⟨k, 0, none⟩) h (fun j hj => hj) _) (fun j hj => hj) _) (fun j hj => hj) _) (fun j hj => hj) _
theorem split_mk (y : By) (W : World) (h : y.length ≤ 1099511627776) : Calls Tryd.prog 32 #[.string (mk y)] W fun e w' => e = .returned (.agg #[.string (mk (ahd y)), .string (mk (bhd y)), .bool (hasStar y)]) ∧ Below W.heap.size W w' := by
  have := split_walk (mk y) W (by rw [mk_size]; unfold big; omega)
  rwa [bl_mk] at this
theorem cut_mk (y : By) (W : World) (h : y.length ≤ 1099511627776) : Calls Tryd.prog 43 #[.string (mk y), .string ⟨#[58]⟩] W fun e w' => e = .returned (.tuple #[.string (mk (cutA y)), .string (mk (cutB y)), .bool (hasColon y)]) ∧ ∃ n, w' = W.drewN n := by
  have := cut_colon' (mk y) W (by rw [mk_size]; unfold big; omega)
  rwa [bl_mk] at this
theorem cutA_le (y : By) : (cutA y).length ≤ y.length := (List.takeWhile_sublist _).length_le
theorem cutB_le (y : By) : (cutB y).length ≤ y.length := by unfold cutB; rw [List.length_drop]; omega
theorem told_fail {ws : List By} {w1 : World} {e : Nat} (h : told ws = ([], 141)) (b : Nat) : Kd.R k55 55 w1 b (fun _ => True) (.slice none 0 0) ((told ws).1.map ofR) := by
  rw [h]; exact Kd.R_nil _ _ _ _ _

set_option maxRecDepth 100000 in
set_option maxHeartbeats 4000000 in
theorem progParse (s : ByteArray) (w : World) (hT : Hid (Lib.Utf8Tabs 0 1 w)) (hs : s.size ≤ 1073741824) :
    Calls Tryd.prog 25 #[.string s] w fun e w' => ∃ v0 : Value, e = .returned (.tuple #[v0, .int .i64 ((told (wordsL [] (bl s))).2 : Int)]) ∧ Kd.R k55 55 w' w.heap.size (fun _ => True) v0 ((told (wordsL [] (bl s))).1.map ofR) ∧ Below w.heap.size w w' := by
  have HF := Tryd.strings_FieldsFunc 40 #[] (enters_of Tryd.func40 (by kernel_rfl) rfl) sepR s w (by omega) (sep_pred w)
  rw [fields_eq] at HF
  have hwl : Hid (∀ x ∈ wordsL [] (bl s), x ≠ [] ∧ x.length ≤ 1073741825) := Lib.hid (fun x hx => ⟨(words_all (bl s) [] (fun b hb => by simp at hb) x hx).1, by have := word_len hx; rw [bl_length] at this; omega⟩)
  have hwc := words_count (bl s)
  rw [bl_length] at hwc
  obtain ⟨ws, hws⟩ : ∃ ws, wordsL [] (bl s) = ws := ⟨_, rfl⟩
  rw [hws] at HF hwl hwc ⊢
  rw [List.length_map] at HF
  have HFF := Lib.hid HF
  clear HF hws
  go_enter Tryd.func25, Tryd.ntmps25
  go_wp2_with fail
  refine HFF.out.mono ?_
  rintro e w1 ⟨A0, rfl, hA, hown, hb⟩
  have hR : Kd.R Kd.string 9 w1 w.heap.size (fun _ => True) (.slice (some ⟨A0, 0, none⟩) ws.length ws.length) (ws.map mk) := Kd.R_of_own (by rw [List.length_map]; exact hown) (fun _ _ => trivial)
  obtain ⟨ad, had⟩ : ∃ ad, (⟨A0, 0, none⟩ : Addr) = ad := ⟨_, rfl⟩
  rw [had] at hR ⊢
  have HD1 := Lib.hid (Kd.R_reads' hR).2.2
  have HB1 := Lib.hid hb
  have HT1 := Lib.hid (tabs_below hT.out hb)
  clear hb hR hown had HFF
  go_wp2_with fail
  go_loopw [20, 4] (fun v20 v4 wr => ∃ (i : Nat), i ≤ ws.length ∧ i ≤ 64 ∧ v20 = .int .i64 i ∧ Below w1.heap.size w1 wr ∧ Kd.R k55 55 wr w1.heap.size (fun _ => True) v4 ((ws.take i).map fun x => ofR (ruleL x).1) ∧ (∀ j (hj : j < ws.length), j < i → (ruleL ws[j]).2 = true)) (fun v20 _ _ => ws.length - (intOf v20).toNat)
  case atStart => exact ⟨0, Nat.zero_le _, by omega, rfl, Below.refl _ _, by simpa using Kd.R_nil _ _ _ _ _, fun j hj h => by omega⟩
  case round =>
    obtain ⟨i, hi, hi64, rfl, hb, hR, hok⟩ := hrel
    have HB := Lib.hid hb
    have HOK := Lib.hid hok
    have hol : ((ws.take i).map fun x => ofR (ruleL x).1).length = i := by rw [List.length_map, List.length_take]; omega
    obtain ⟨Ao, co, rfl⟩ := Kd.R_slice hR
    rw [hol] at hR
    have HR := Lib.hid hR
    rw [hol]
    have HOL := Lib.hid hol
    clear hb hok hR hol
    by_cases hlt : i < ws.length
    · obtain ⟨hne, hxl⟩ := hwl.out ws[i] (List.getElem_mem hlt)
      obtain ⟨ad', had, h0⟩ := name_at (Kd.C_below HD1.out HB.out) i (by rw [List.length_map]; exact hlt)
      obtain rfl := Option.some.inj had
      rw [List.getElem_map] at h0
      have htk := List.take_succ_eq_append_getElem hlt
      have hbad := fun h => told_bad (ws := ws) hlt h
      have hlong := fun h => told_long (ws := ws) h
      have hnext : (ruleL ws[i]).2 = true → ∀ j (hj : j < ws.length), j < i + 1 → (ruleL ws[j]).2 = true := fun h j hj hji => by
        by_cases e : j = i
        · subst e; exact h
        · exact HOK.out j hj (by omega)
      obtain ⟨x, hx⟩ : ∃ x, ws[i] = x := ⟨_, rfl⟩
      rw [hx] at hne hxl h0 htk hbad hnext
      have HTK := Lib.hid htk
      have HBAD := Lib.hid hbad
      have HLONG := Lib.hid hlong
      have HNEXT := Lib.hid hnext
      clear hx had htk hbad hlong hnext
      obtain ⟨y, f, HP, hyes, hno⟩ := rule_first x hne
      have HYES := Lib.hid hyes
      have HNO := Lib.hid hno
      have HP' := Lib.hid HP
      clear hyes hno HP
      have qi0 : (0 : Int) ≤ (i : Int) := by omega
      have qi1 : (i : Int) < (ws.length : Int) := by omega
      go_wp2_with fail
      obtain ⟨ku, hku⟩ : ∃ ku, wr.heap.size = ku := ⟨_, rfl⟩
      obtain ⟨wu, hwu⟩ : ∃ wu, wr.alloc (Obj.cells #[Value.string ⟨#[]⟩, Value.string ⟨#[]⟩, Value.bool false, Value.bool false] 55) = wu := ⟨_, rfl⟩
      have h4 : Four wu ku z55 := by subst hwu hku; refine ⟨⟨?_, ?_, ?_, ?_⟩, ?_, ?_, ?_, ?_⟩ <;> simp [go_sem, z55]
      have hBu : Below w1.heap.size w1 wu := hwu ▸ below_alloc HB.out _
      have hRu : Kd.R k55 55 wu w1.heap.size (fun _ => True) (.slice Ao i co) ((ws.take i).map fun x => ofR (ruleL x).1) := hwu ▸ Kd.R_alloc HR.out _
      have hRk : Kd.R k55 55 wu w1.heap.size (fun k => k ≠ ku) (.slice Ao i co) ((ws.take i).map fun x => ofR (ruleL x).1) := by
        have h := Kd.R_alloc (Kd.R_mono (ok' := fun k => k ≠ ku) (Kd.R_bound HR.out) (fun k hk => by have := hk.2.2.1; omega)) (Obj.cells #[Value.string ⟨#[]⟩, Value.string ⟨#[]⟩, Value.bool false, Value.bool false] 55)
        rw [hwu] at h
        exact h
      have hk1 : w1.heap.size ≤ ku := hku ▸ HB.out.size
      rw [hwu, hku]
      have HF4 := Lib.hid h4
      have HBU := Lib.hid hBu
      have HRK := Lib.hid hRk
      have HK1 := Lib.hid hk1
      clear hwu hku h4 hBu hRu hRk hk1 h0 HB HR
      refine (HP'.out _).mono ?_
      rintro e w' ⟨rfl, rfl⟩
      obtain ⟨⟨c0, c1, c2, c3⟩, f0, f1, f2, f3⟩ := HF4.out
      go_upto_if 29 with fail
      go_cut [] from 30 to 73 (fun wc => (ruleL x).2 = true ∧ Below w1.heap.size w1 wc ∧ Kd.R k55 55 wc w1.heap.size (fun k => k ≠ ku) (.slice Ao i co) ((ws.take i).map fun x => ofR (ruleL x).1) ∧ Four wc ku (ofR (ruleL x).1))
      case first =>
        cases f
        · obtain ⟨y2, fo, HP2, hrl, hy2⟩ := rule_second x hne (HNO.out rfl)
          have HP2' := Lib.hid HP2
          have hy2l : y2.length ≤ 1099511627776 := by omega
          have HC := Lib.hid (fun W => cut_mk y2 W hy2l)
          have hok2 := two_prog y2 fo
          have hval := two_val y2 fo
          rw [← hrl] at hok2 hval
          have hal := cutA_le y2
          have hbl := cutB_le y2
          obtain ⟨a, ha⟩ : ∃ a, cutA y2 = a := ⟨_, rfl⟩
          obtain ⟨b, hb⟩ : ∃ b, cutB y2 = b := ⟨_, rfl⟩
          obtain ⟨hc, hhc⟩ : ∃ hc, hasColon y2 = hc := ⟨_, rfl⟩
          rw [ha, hb, hhc] at HC
          rw [ha] at hal
          rw [hb] at hbl
          rw [ha, hb] at hok2 hval
          rw [hhc] at hok2
          have HOK2 := Lib.hid hok2
          have HVAL := Lib.hid hval
          clear ha hb hhc hok2 hval HP2 hrl
          have HSA := Lib.hid (fun W => split_mk a W (by omega))
          have HSB := Lib.hid (fun W => split_mk b W (by omega))
          have HGA := Lib.hid (fun W (hb : Below w1.heap.size w1 W) => good_walk a W (tabs_below HT1.out hb) (by omega))
          have HGB := Lib.hid (fun W (hb : Below w1.heap.size w1 W) => good_walk b W (tabs_below HT1.out hb) (by omega))
          go_wp2_with fail
          refine (HP2'.out _).mono ?_
          rintro e w'' ⟨rfl, rfl⟩
          go_wp2_with fail
          refine (HC.out _).mono ?_
          rintro e w3 ⟨rfl, n3, hw3⟩
          have HF5 := Lib.hid (HF4.out.below (w1 := w3) (hw3 ▸ pw_below_drewN (Below.refl _ _) n3))
          have HB5 := Lib.hid (show Below w1.heap.size w1 w3 from hw3 ▸ pw_below_drewN HBU.out n3)
          have HR5 := Lib.hid (show Kd.R k55 55 w3 w1.heap.size (fun k => k ≠ ku) (.slice Ao i co) ((ws.take i).map fun x => ofR (ruleL x).1) from hw3 ▸ Kd.R_drewN HRK.out n3)
          clear hw3 c0 c1 c2 c3 f0 f1 f2 f3
          obtain ⟨⟨c0, c1, c2, c3⟩, f0, f1, f2, f3⟩ := HF5.out
          go_wp2_with fail
          obtain ⟨u3, hu3⟩ : ∃ u3 : S55, (⟨mk a, mk b, fo, false⟩ : S55) = u3 := ⟨_, rfl⟩
          have hv3 : (ruleL x).2 = true → ofR (ruleL x).1 = u3 := fun h => by rw [HVAL.out h, ← hu3]; rfl
          obtain ⟨wz, hwz⟩ : ∃ wz, set4 w3 ku u3 = wz := ⟨_, rfl⟩
          have hez : (((w3.setCell ⟨ku, 0, none⟩ (Value.string (mk a))).setCell ⟨ku, 1, none⟩ (Value.string (mk b))).setCell ⟨ku, 2, none⟩ (Value.bool fo)).setCell ⟨ku, 3, none⟩ (Value.bool false) = wz := by rw [← hwz, ← hu3]; rfl
          rw [hez]
          have HZ := Lib.hid (hwz ▸ HF5.out.set u3 : Four wz ku u3)
          have HZB := Lib.hid (hwz ▸ set4_below HB5.out HK1.out _ : Below w1.heap.size w1 wz)
          have HZR := Lib.hid (hwz ▸ R_set4 HR5.out _ : Kd.R k55 55 wz w1.heap.size (fun k => k ≠ ku) (.slice Ao i co) ((ws.take i).map fun x => ofR (ruleL x).1))
          have HV3 := Lib.hid hv3
          clear hez hwz hu3 hv3 HF5 HB5 HR5 c0 c1 c2 c3 f0 f1 f2 f3
          refine (HSA.out _).mono ?_
          rintro e w4 ⟨rfl, hb⟩
          have HZ4 := Lib.hid (HZ.out.below hb)
          have HB4 := Lib.hid (HZB.out.trans (hb.mono HZB.out.size))
          have HR4 := Lib.hid (Kd.R_below HZR.out hb)
          clear hb HZ HZR HZB
          go_wp2_with fail
          refine (HSB.out _).mono ?_
          rintro e w5 ⟨rfl, hb⟩
          have HZ5 := Lib.hid (HZ4.out.below hb)
          have HB5 := Lib.hid (HB4.out.trans (hb.mono HB4.out.size))
          have HR5 := Lib.hid (Kd.R_below HR4.out hb)
          clear hb HZ4 HR4 HB4
          obtain ⟨aa, haa⟩ : ∃ v, mk (ahd a) = v := ⟨_, rfl⟩
          obtain ⟨ab, hab⟩ : ∃ v, mk (bhd a) = v := ⟨_, rfl⟩
          obtain ⟨sa, hsa⟩ : ∃ v, hasStar a = v := ⟨_, rfl⟩
          obtain ⟨ba, hba⟩ : ∃ v, mk (ahd b) = v := ⟨_, rfl⟩
          obtain ⟨bb, hbb⟩ : ∃ v, mk (bhd b) = v := ⟨_, rfl⟩
          obtain ⟨sb, hsb⟩ : ∃ v, hasStar b = v := ⟨_, rfl⟩
          obtain ⟨ga, hga⟩ : ∃ v, goodB (putL a [120]) = v := ⟨_, rfl⟩
          obtain ⟨gb, hgb⟩ : ∃ v, goodB (putL b [120]) = v := ⟨_, rfl⟩
          have hok2 := HOK2.out
          rw [haa, hab, hsa, hga] at HGA
          rw [hba, hbb, hsb, hgb] at HGB
          rw [hga, hgb, hsa, hsb] at hok2
          rw [haa, hab, hsa, hba, hbb, hsb]
          clear haa hab hsa hba hbb hsb hga hgb HOK2 HSA HSB HC HP2' HVAL
          have HOK3 := Lib.hid hok2
          clear hok2
          go_upto_region 15 with fail
          obtain ⟨k5, hk5⟩ : ∃ k5, w5.heap.size = k5 := ⟨_, rfl⟩
          obtain ⟨wx, hwx⟩ : ∃ wx, (w5.alloc (Obj.cells #[Value.string aa, Value.string ab, Value.bool sa] 65)).alloc (Obj.cells #[Value.string ba, Value.string bb, Value.bool sb] 65) = wx := ⟨_, rfl⟩
          have hx0 : wx.cell? ⟨k5, 0, none⟩ = some (.string aa) := by subst hwx hk5; simp [go_sem]
          have hx1 : wx.cell? ⟨k5, 1, none⟩ = some (.string ab) := by subst hwx hk5; simp [go_sem]
          have hx2 : wx.cell? ⟨k5, 2, none⟩ = some (.bool sa) := by subst hwx hk5; simp [go_sem]
          have hy0 : wx.cell? ⟨k5 + 1, 0, none⟩ = some (.string ba) := by subst hwx hk5; simp [go_sem]
          have hy1 : wx.cell? ⟨k5 + 1, 1, none⟩ = some (.string bb) := by subst hwx hk5; simp [go_sem]
          have hy2 : wx.cell? ⟨k5 + 1, 2, none⟩ = some (.bool sb) := by subst hwx hk5; simp [go_sem]
          have hbx : Below w5.heap.size w5 wx := hwx ▸ below_alloc (below_alloc (Below.refl _ _) _) _
          rw [hwx, hk5]
          have HZX := Lib.hid (HZ5.out.below hbx)
          have HBX := Lib.hid (HB5.out.trans (hbx.mono HB5.out.size))
          have HRX := Lib.hid (Kd.R_below HR5.out hbx)
          clear hwx hk5 hbx HZ5 HR5 HB5
          cases hc
          · go_wp2_with fail
            go_ret2
            rw [HBAD.out (HOK3.out.symm.trans (by rfl))]
            exact ⟨_, rfl, Kd.R_nil _ _ _ _ _, HB1.out.trans (HBX.out.mono HB1.out.size)⟩
          · go_wp2_with fail
            refine (HGA.out _ HBX.out).mono ?_
            rintro e w6 ⟨rfl, hb⟩
            have hx2 := pw_cell_below hb hx2
            have hy0 := pw_cell_below hb hy0
            have hy1 := pw_cell_below hb hy1
            have hy2 := pw_cell_below hb hy2
            have HZ6 := Lib.hid (HZX.out.below hb)
            have HB6 := Lib.hid (HBX.out.trans (hb.mono HBX.out.size))
            have HR6 := Lib.hid (Kd.R_below HRX.out hb)
            clear hb HZX HRX hx0 hx1
            cases ga
            · go_wp2_with fail
              go_ret2
              rw [HBAD.out (HOK3.out.symm.trans (by rfl))]
              exact ⟨_, rfl, Kd.R_nil _ _ _ _ _, HB1.out.trans (HB6.out.mono HB1.out.size)⟩
            · go_wp2_with fail
              refine (HGB.out _ HB6.out).mono ?_
              rintro e w7 ⟨rfl, hb⟩
              have hx2 := pw_cell_below hb hx2
              have hy2 := pw_cell_below hb hy2
              have HZ7 := Lib.hid (HZ6.out.below hb)
              have HB7 := Lib.hid (HB6.out.trans (hb.mono HB6.out.size))
              have HR7 := Lib.hid (Kd.R_below HR6.out hb)
              clear hb HZ6 HR6 hy0 hy1
              cases gb
              · go_wp2_with fail
                go_ret2
                rw [HBAD.out (HOK3.out.symm.trans (by rfl))]
                exact ⟨_, rfl, Kd.R_nil _ _ _ _ _, HB1.out.trans (HB7.out.mono HB1.out.size)⟩
              · by_cases hss : sa = sb
                · subst hss
                  have hyes : (ruleL x).2 = true := HOK3.out.symm.trans (by cases sa <;> rfl)
                  go_wp2_with fail
                  go_meet
                  case rel => exact ⟨hyes, HB7.out, HR7.out, by rw [HV3.out hyes]; exact HZ7.out⟩
                · cases sa <;> cases sb <;> first | exact absurd rfl hss | skip
                  all_goals
                    go_wp2_with fail
                    go_ret2
                    rw [HBAD.out (HOK3.out.symm.trans (by rfl))]
                    exact ⟨_, rfl, Kd.R_nil _ _ _ _ _, HB1.out.trans (HB7.out.mono HB1.out.size)⟩
        · obtain ⟨hrl, hyl⟩ := HYES.out rfl
          have HS := Lib.hid (fun W => split_mk y W (by omega))
          have HG := Lib.hid (fun W (hb : Below w1.heap.size w1 W) => good_walk y W (tabs_below HT1.out hb) (by omega))
          go_wp2_with fail
          obtain ⟨wz, hwz⟩ : ∃ wz, set4 w' ku (ofR (ruleL x).1) = wz := ⟨_, rfl⟩
          have hez : (((w'.setCell ⟨ku, 0, none⟩ (Value.string (mk y))).setCell ⟨ku, 1, none⟩ (Value.string ⟨#[]⟩)).setCell ⟨ku, 2, none⟩ (Value.bool false)).setCell ⟨ku, 3, none⟩ (Value.bool true) = wz := by rw [← hwz, hrl]; rfl
          rw [hez]
          have HZ := Lib.hid (hwz ▸ HF4.out.set (ofR (ruleL x).1) : Four wz ku (ofR (ruleL x).1))
          have HZB := Lib.hid (hwz ▸ set4_below HBU.out HK1.out _ : Below w1.heap.size w1 wz)
          have HZR := Lib.hid (hwz ▸ R_set4 HRK.out _ : Kd.R k55 55 wz w1.heap.size (fun k => k ≠ ku) (.slice Ao i co) ((ws.take i).map fun x => ofR (ruleL x).1))
          have hok : (ruleL x).2 = goodB (putL y [120]) := by rw [hrl]
          clear hez hwz hrl HF4 HBU HRK c0 c1 c2 c3 f0 f1 f2 f3
          refine (HS.out _).mono ?_
          rintro e w4 ⟨rfl, hb⟩
          have HZ4 := Lib.hid (HZ.out.below hb)
          have HB4 := Lib.hid (HZB.out.trans (hb.mono HZB.out.size))
          have HR4 := Lib.hid (Kd.R_below HZR.out hb)
          clear hb HZ HZR
          go_wp2_with fail
          obtain ⟨g, hg⟩ : ∃ g, goodB (putL y [120]) = g := ⟨_, rfl⟩
          rw [hg] at HG hok
          clear hg
          have HOKX := Lib.hid hok
          clear hok
          refine (HG.out _ HB4.out).mono ?_
          rintro e w5 ⟨rfl, hb⟩
          have HZ5 := Lib.hid (HZ4.out.below hb)
          have HB5 := Lib.hid (HB4.out.trans (hb.mono HB4.out.size))
          have HR5 := Lib.hid (Kd.R_below HR4.out hb)
          clear hb HZ4 HR4
          cases g
          · go_wp2_with fail
            go_ret2
            rw [HBAD.out HOKX.out]
            exact ⟨_, rfl, Kd.R_nil _ _ _ _ _, HB1.out.trans (HB5.out.mono HB1.out.size)⟩
          · go_wp2_with fail
            go_meet
            case rel => exact ⟨HOKX.out, HB5.out, HR5.out, HZ5.out⟩
      case rest =>
        obtain ⟨hok, hb, hR, h4⟩ := hcut
        have HBC := Lib.hid hb
        have HRC := Lib.hid (Kd.R_mono (ok' := fun _ => True) hR (fun _ _ => trivial))
        have HN2 := Lib.hid (HNEXT.out hok)
        obtain ⟨⟨c0, c1, c2, c3⟩, _⟩ := h4
        obtain ⟨u, hu⟩ : ∃ u, ofR (ruleL x).1 = u := ⟨_, rfl⟩
        rw [hu] at c0 c1 c2 c3
        have hts : (ws.take (i + 1)).map (fun x => ofR (ruleL x).1) = ((ws.take i).map fun x => ofR (ruleL x).1) ++ [u] := by rw [HTK.out, List.map_append, ← hu]; rfl
        have HTS := Lib.hid hts
        clear hok hb hR hu hts HF4 HBU HRK
        by_cases h64 : i = 64
        · have hl := HLONG.out (by omega)
          go_wp2_with fail
          go_ret2
          rw [hl]
          exact ⟨_, rfl, Kd.R_nil _ _ _ _ _, HB1.out.trans (HBC.out.mono HB1.out.size)⟩
        · have hli : ((ws.take i).map fun x => ofR (ruleL x).1).length = i := HOL.out
          have h64' : i < 64 := by omega
          obtain ⟨acc, hacc⟩ : ∃ acc, ((ws.take i).map fun x => ofR (ruleL x).1) = acc := ⟨_, rfl⟩
          rw [hacc] at HRC HTS hli
          clear hacc
          have HLI := Lib.hid hli
          clear hli
          go_wp2_with (first | ((with_reducible refine gate_builtin (b := .append) (xs := #[.tmp 77, .tmp 79]) rfl ?_); at_builtin; refine Kd.R_append k55 (w0 := w1) w1.heap.size rfl (.tmp 77) (.tmp 79) 39 55 (.agg #[(.string ⟨#[]⟩), (.string ⟨#[]⟩), (.bool false), (.bool false)]) 40 rfl Tryd.underlying39 info55 rfl (by decide) (by omega) (.slice Ao i co) acc u [.string u.f0, .string u.f1, .bool u.f2, .bool u.f3] (fun _ => True) (fun _ => False) rfl rfl ?aP (fun _ hk => hk.elim) ?aF ?aO ?aB ?aS ?aL ?_; (case aP => exact k55_mkM _ _ _ u); (case aB => exact HBC.out); (case aF => exact (fun _ _ => trivial)); (case aO => exact HRC.out); (case aS => exact HBC.out.size); (case aL => have := HLI.out; omega); intro v1 w9 ho hb hg hat; have HO9 := Lib.hid ho; have HB9 := Lib.hid hb; clear ho hb hg hat))
          go_roundw
          case rel => exact ⟨i + 1, by omega, by omega, by go_num, HB9.out, by rw [HTS.out]; exact HO9.out, HN2.out⟩
          case measure => simp [intOf]; omega
    · have hil : i = ws.length := by omega
      have hgood := told_good (ws := ws) (fun j hj => HOK.out j hj (by omega)) (by omega)
      go_wp2_with fail
      go_ret2
      rw [hgood]
      refine ⟨_, rfl, ?_, HB1.out.trans (HB.out.mono HB1.out.size)⟩
      have h := Kd.R_lower HR.out HB1.out.size
      rw [hil, List.take_length] at h
      rw [List.map_map]
      rw [hil]
      exact h
end Go.Proofs.YtnolfopgijgpcaaDoor.Rm
