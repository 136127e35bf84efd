import Derived.Test.YtnolfopgijgpcaaDoorQa
/- The walk of the reference's Map. -/
namespace Go.Proofs.YtnolfopgijgpcaaDoor.Rm
set_option linter.unusedVariables false
open Go.Lib Go.RowKit Go.Proofs.YtnolfopgijgpcaaDoor.Nm Go.Proofs.YtnolfopgijgpcaaDoor.PRefsMapped Go.Proofs.YtnolfopgijgpcaaDoorW.PrintWords

def Rok (M : Nat) (l : List S55) : Prop := ∀ u ∈ l, u.f0.size ≤ M ∧ u.f1.size ≤ M
abbrev rs (l : List S55) : List R := l.map toR
theorem fitsL_length (s x : By) : (fitsL s x).1.length ≤ x.length := by
  unfold fitsL
  split
  · split
    · simp only [List.length_take, List.length_drop]; omega
    · simp
  · simp
theorem putL_length (s m : By) : (putL s m).length ≤ s.length + m.length := by
  unfold putL
  split
  · rename_i h
    have := suf_length s h
    simp; omega
  · omega
/-- Rule i, at its cells. -/
theorem rule_at {w : World} {A : Option Addr} {l : List S55} (h : Kd.C k55 w A l.length l) (i : Nat) (hi : i < l.length) :
    ∃ ad, A = some ad ∧ w.cell? (ad.add (i * 4)) = some (.string l[i].f0) ∧ w.cell? ⟨(ad.add (i * 4)).block, (ad.add (i * 4)).off + 1, none⟩ = some (.string l[i].f1) ∧
      w.cell? ⟨(ad.add (i * 4)).block, (ad.add (i * 4)).off + 2, none⟩ = some (.bool l[i].f2) ∧ w.cell? ⟨(ad.add (i * 4)).block, (ad.add (i * 4)).off + 3, none⟩ = some (.bool l[i].f3) := by
  obtain ⟨ad, e, h0, h1, h2, h3⟩ := at_T55 h (i : Int) (by omega) (by omega)
  rw [Int.toNat_natCast] at h0 h1 h2 h3
  have e1 : rd_T55 l (i : Int) = l[i] := by simp [rd_T55, hi]
  rw [e1] at h0 h1 h2 h3
  exact ⟨ad, e, h0, h1, h2, h3⟩
theorem len_max {w : World} {A : Option Addr} {l : List S55} (h : Kd.C k55 w A l.length l) : l.length ≤ 9223372036854775807 := h.2.1
theorem out_take (l : List S55) (i : Nat) (hi : i < l.length) (x : By) : out (rs (l.take (i + 1))) x = (out (rs (l.take i)) x || (l[i].f3 && (fitsL (bl l[i].f0) x).2)) := by
  unfold out rs
  rw [List.take_succ_eq_append_getElem hi, List.map_append, List.any_append]
  simp [toR]
theorem out_mono (l : List S55) (i : Nat) (x : By) (h : out (rs (l.take i)) x = true) : out (rs l) x = true := by
  unfold out rs at *
  rw [List.any_eq_true] at *
  obtain ⟨u, hu, hx⟩ := h
  obtain ⟨v, hv, rfl⟩ := List.mem_map.1 hu
  exact ⟨_, List.mem_map_of_mem (List.mem_of_mem_take hv), hx⟩
theorem first_drop (l : List S55) (i : Nat) (hi : i < l.length) (x : By) : first (rs (l.drop i)) x = if takes (toR l[i]) x then (putL (bl l[i].f1) (fitsL (bl l[i].f0) x).1, l[i].f2, true) else first (rs (l.drop (i + 1))) x := by
  unfold rs
  rw [List.drop_eq_getElem_cons hi, List.map_cons]
  rfl

theorem takes_fit (u : S55) (x : By) (h : (fitsL (bl u.f0) x).2 = false) : takes (toR u) x = false := by
  unfold takes
  rw [show (toR u).src = bl u.f0 from rfl, h]; simp
theorem takes_pair (u : S55) (x : By) (h : (!u.f3 && (hasStar (bl u.f0) == hasStar (bl u.f1))) = false) : takes (toR u) x = false := by
  unfold takes
  rw [show (toR u).src = bl u.f0 from rfl, show (toR u).not = u.f3 from rfl, show (toR u).dst = bl u.f1 from rfl]
  cases h1 : u.f3
  · rw [h1] at h
    rw [show (hasStar (bl u.f0) == hasStar (bl u.f1)) = false from h]; simp
  · simp
theorem takes_bad (u : S55) (x m : By) (hm : (fitsL (bl u.f0) x).1 = m) (h : goodB (putL (bl u.f1) m) = false) : takes (toR u) x = false := by
  unfold takes
  rw [show (toR u).src = bl u.f0 from rfl, show (toR u).dst = bl u.f1 from rfl, hm, h]; simp
theorem takes_yes (u : S55) (x m : By) (hm : (fitsL (bl u.f0) x).1 = m) (hf : (fitsL (bl u.f0) x).2 = true) (hp : (!u.f3 && (hasStar (bl u.f0) == hasStar (bl u.f1))) = true) (h : goodB (putL (bl u.f1) m) = true) : takes (toR u) x = true := by
  unfold takes
  rw [show (toR u).src = bl u.f0 from rfl, show (toR u).not = u.f3 from rfl, show (toR u).dst = bl u.f1 from rfl, hm, h, hf, Bool.and_true, Bool.and_true, hp]
theorem go_on {a b c : By × Bool × Bool} {p : Bool} (h1 : a = if true = true then b else ([], false, false)) {d : By × Bool × Bool} (h2 : b = if p = true then c else d) (h3 : p = false) : a = if true = true then d else ([], false, false) := by
  rw [h1, h2, h3]; rfl
theorem go_off {a b c : By × Bool × Bool} {p : Bool} (h1 : a = if true = true then b else ([], false, false)) {d : By × Bool × Bool} (h2 : b = if p = true then c else d) (h3 : p = true) : a = c := by
  rw [h1, h2, h3]; rfl

/-- What Map answers. -/
def mapV (y : By × Bool × Bool) : Ending := .returned (.tuple #[.string (mk y.1), .bool y.2.1, .bool y.2.2])

set_option maxRecDepth 100000 in
set_option maxHeartbeats 4000000 in
theorem refMap_walk (M : Nat) (hM : M ≤ big) (l : List S55) (x : ByteArray) (A : Option Addr) (c : Nat) (w : World) (hC : Hid (Kd.C k55 w A l.length l)) (hc : l.length ≤ c) (hr : Hid (Rok M l)) (hx : x.size ≤ big) :
    Calls Tryd.prog 17 #[.slice A l.length c, .string x] w fun e w' => e = mapV (mapL (rs l) (bl x)) ∧ Below w.heap.size w w' := by
  have hm := len_max hC.out
  have HG := Lib.hid (refGood x w)
  go_enter Tryd.func17, Tryd.ntmps17
  go_wp2_with fail
  refine HG.out.mono ?_
  rintro e w1 ⟨rfl, hb⟩
  have HB := Lib.hid hb
  clear hb
  go_wp2_with fail
  go_loopw [7, 8] (fun v7 v8 wr => ∃ (i : Nat) (ok : Bool), i ≤ l.length ∧ v8 = .int .i64 i ∧ v7 = .bool ok ∧ Below w.heap.size w wr ∧ ok = (goodB (bl x) && !out (rs (l.take i)) (bl x))) (fun _ v8 _ => l.length - (intOf v8).toNat)
  case atStart => exact ⟨0, _, Nat.zero_le _, rfl, rfl, HB.out, by simp [out]⟩
  case round =>
    obtain ⟨i, ok, hi, rfl, rfl, hb, hok⟩ := hrel
    have HBr := Lib.hid hb
    have HOK := Lib.hid hok
    clear hb hok
    by_cases hlt : i < l.length ∧ ok = true
    · obtain ⟨hlt, rfl⟩ := hlt
      have hu := hr.out l[i] (List.getElem_mem hlt)
      obtain ⟨ad, rfl, h0, h1, h2, h3⟩ := rule_at (Kd.C_below hC.out HBr.out) i hlt
      obtain ⟨u, hu0⟩ : ∃ u, l[i] = u := ⟨_, rfl⟩
      rw [hu0] at h0 h1 h2 h3 hu
      have HU := Lib.hid hu0
      have HF := Lib.hid (refFits u.f0 x wr (by omega) hx)
      obtain ⟨fits, hf⟩ : ∃ fits, (fitsL (bl u.f0) (bl x)).2 = fits := ⟨_, rfl⟩
      have HFI := Lib.hid hf
      rw [hf] at HF
      clear hu0 hf h1 h2
      go_wp2_with fail
      refine HF.out.mono ?_
      rintro e w2 ⟨rfl, n, rfl⟩
      cases hn : u.f3
      · rw [hn] at h3
        have HN := Lib.hid hn
        clear hn
        go_wp2_with fail
        go_roundw
        case rel => exact ⟨i + 1, true, by omega, by go_num, rfl, pw_below_drewN HBr.out n, by rw [out_take l i hlt, HU.out, HN.out, Bool.false_and, Bool.or_false]; exact HOK.out⟩
        case measure => simp [intOf]; omega
      · rw [hn] at h3
        have HN := Lib.hid hn
        clear hn
        cases fits
        · go_wp2_with fail
          go_roundw
          case rel => exact ⟨i + 1, true, by omega, by go_num, rfl, pw_below_drewN HBr.out n, by rw [out_take l i hlt, HU.out, HFI.out, Bool.and_false, Bool.or_false]; exact HOK.out⟩
          case measure => simp [intOf]; omega
        · go_wp2_with fail
          go_roundw
          case rel => exact ⟨i + 1, false, by omega, by go_num, rfl, pw_below_drewN HBr.out n, by rw [out_take l i hlt, HU.out, HFI.out, HN.out]; simp⟩
          case measure => simp [intOf]; omega
    · have hfin : ok = (goodB (bl x) && !out (rs l) (bl x)) := by
        by_cases hi2 : i < l.length
        · have hokf : ok = false := by
            cases ok
            · rfl
            · exact absurd ⟨hi2, rfl⟩ hlt
          subst hokf
          have h4 := HOK.out
          cases hg : goodB (bl x)
          · rfl
          · rw [hg, Bool.true_and] at h4
            have h5 : out (rs (l.take i)) (bl x) = true := by
              cases h6 : out (rs (l.take i)) (bl x)
              · rw [h6] at h4; cases h4
              · rfl
            rw [out_mono l i _ h5]; rfl
        · have : i = l.length := by omega
          subst this
          rw [List.take_length] at HOK
          exact HOK.out
      have hmap : mapL (rs l) (bl x) = if ok = true then first (rs (l.drop 0)) (bl x) else ([], false, false) := by
        unfold mapL
        rw [← hfin, List.drop_zero]
      have HMap := Lib.hid hmap
      clear hfin HOK hmap
      by_cases hi2 : i < l.length
      · obtain rfl : ok = false := by
          cases ok
          · rfl
          · exact absurd ⟨hi2, rfl⟩ hlt
        clear hlt
        go_wp2_with fail
        go_loopw [11] (fun v11 wr => ∃ (j : Nat), v11 = .int .i64 j ∧ j ≤ l.length ∧ Below w.heap.size w wr) (fun v11 _ => l.length - (intOf v11).toNat)
        case atStart => exact ⟨0, rfl, Nat.zero_le _, HBr.out⟩
        case round =>
          obtain ⟨j, rfl, hj, hb2⟩ := hrel
          have HB2 := Lib.hid hb2
          clear hb2
          by_cases hj2 : j < l.length
          · go_wp2_with fail
            go_ret3
            exact ⟨by rw [HMap.out]; rfl, HB2.out⟩
          · go_wp2_with fail
            go_ret3
            exact ⟨by rw [HMap.out]; rfl, HB2.out⟩
      · clear hlt
        go_wp2_with fail
        go_loopw [11] (fun v11 wr => ∃ (j : Nat), v11 = .int .i64 j ∧ j ≤ l.length ∧ Below w.heap.size w wr ∧ mapL (rs l) (bl x) = if ok = true then first (rs (l.drop j)) (bl x) else ([], false, false)) (fun v11 _ => l.length - (intOf v11).toNat)
        case atStart => exact ⟨0, rfl, Nat.zero_le _, HBr.out, HMap.out⟩
        case round =>
          obtain ⟨j, rfl, hj, hb2, hmj⟩ := hrel
          have HB2 := Lib.hid hb2
          have HMj := Lib.hid hmj
          clear hb2 hmj
          cases ok
          · by_cases hj2 : j < l.length
            · go_wp2_with fail
              go_ret3
              exact ⟨by rw [HMj.out]; rfl, HB2.out⟩
            · go_wp2_with fail
              go_ret3
              exact ⟨by rw [HMj.out]; rfl, HB2.out⟩
          · by_cases hj2 : j < l.length
            · have hu := hr.out l[j] (List.getElem_mem hj2)
              obtain ⟨ad, rfl, h0, h1, h2, h3⟩ := rule_at (Kd.C_below hC.out HB2.out) j hj2
              have hfd := first_drop l j hj2 (bl x)
              obtain ⟨u, hu0⟩ : ∃ u, l[j] = u := ⟨_, rfl⟩
              rw [hu0] at h0 h1 h2 h3 hu hfd
              have HFD := Lib.hid hfd
              have HF := Lib.hid (refFits u.f0 x wr (by omega) hx)
              obtain ⟨m, hm0⟩ : ∃ m, (fitsL (bl u.f0) (bl x)).1 = m := ⟨_, rfl⟩
              have hml : m.length ≤ big := by have := fitsL_length (bl u.f0) (bl x); rw [hm0, bl_length] at this; omega
              have HM0 := Lib.hid hm0
              rw [hm0] at HF
              cases hf : (fitsL (bl u.f0) (bl x)).2
              · have HFI := Lib.hid hf
                rw [hf] at HF
                clear hf hu0 hfd hm0
                go_wp2_with fail
                refine HF.out.mono ?_
                rintro e w2 ⟨rfl, n, rfl⟩
                go_wp2_with fail
                go_roundw
                case rel => exact ⟨j + 1, by go_num, by omega, pw_below_drewN HB2.out n, go_on HMj.out HFD.out (takes_fit u _ HFI.out)⟩
                case measure => simp [intOf]; omega
              · have HFI := Lib.hid hf
                rw [hf] at HF
                clear hf hu0 hfd hm0
                go_wp2_with fail
                refine HF.out.mono ?_
                rintro e w2 ⟨rfl, n, rfl⟩
                go_wp2_with fail
                have HPR := Lib.hid (refPair u (wr.drewN n) (by omega) (by omega))
                cases hp : (!u.f3 && (hasStar (bl u.f0) == hasStar (bl u.f1)))
                · rw [hp] at HPR
                  have HP := Lib.hid hp
                  clear hp
                  refine HPR.out.mono ?_
                  rintro e w3 ⟨rfl, hb3⟩
                  have HB3 := Lib.hid ((pw_below_drewN HB2.out n).trans (hb3.mono HB2.out.size))
                  clear hb3
                  go_wp2_with fail
                  go_roundw
                  case rel => exact ⟨j + 1, by go_num, by omega, HB3.out, go_on HMj.out HFD.out (takes_pair u _ HP.out)⟩
                  case measure => simp [intOf]; omega
                · rw [hp] at HPR
                  have HP := Lib.hid hp
                  clear hp
                  refine HPR.out.mono ?_
                  rintro e w3 ⟨rfl, hb3⟩
                  have HB3 := Lib.hid ((pw_below_drewN HB2.out n).trans (hb3.mono HB2.out.size))
                  have h1w := pw_cell_below hb3 (by rw [World.cell?_drewN]; exact h1)
                  have h2w := pw_cell_below hb3 (by rw [World.cell?_drewN]; exact h2)
                  clear hb3
                  have HPT := Lib.hid (refPut u.f1 (mk m) w3 (by omega) (by rw [mk_size]; exact hml))
                  rw [bl_mk] at HPT
                  go_wp2_with fail
                  refine HPT.out.mono ?_
                  rintro e w4 ⟨rfl, n4, rfl⟩
                  go_wp2_with fail
                  have HGD := Lib.hid (refGood (mk (putL (bl u.f1) m)) (w3.drewN n4))
                  rw [bl_mk] at HGD
                  cases hg : goodB (putL (bl u.f1) m)
                  · rw [hg] at HGD
                    have HG2 := Lib.hid hg
                    clear hg
                    refine HGD.out.mono ?_
                    rintro e w5 ⟨rfl, hb5⟩
                    have HB5 := Lib.hid ((pw_below_drewN HB3.out n4).trans (hb5.mono HB3.out.size))
                    clear hb5
                    go_wp2_with fail
                    go_roundw
                    case rel => exact ⟨j + 1, by go_num, by omega, HB5.out, go_on HMj.out HFD.out (takes_bad u _ m HM0.out HG2.out)⟩
                    case measure => simp [intOf]; omega
                  · rw [hg] at HGD
                    have HG2 := Lib.hid hg
                    clear hg
                    refine HGD.out.mono ?_
                    rintro e w5 ⟨rfl, hb5⟩
                    have HB5 := Lib.hid ((pw_below_drewN HB3.out n4).trans (hb5.mono HB3.out.size))
                    have h1x := pw_cell_below hb5 (by rw [World.cell?_drewN]; exact h1w)
                    have h2x := pw_cell_below hb5 (by rw [World.cell?_drewN]; exact h2w)
                    clear hb5 h1 h2 h1w h2w h0 h3
                    have hpt2 : ∀ W, Calls Tryd.prog 37 #[.string u.f1, .string (mk m)] W fun e w' => e = .returned (.string (mk (putL (bl u.f1) m))) ∧ ∃ n, w' = W.drewN n := fun W => by
                      have := refPut u.f1 (mk m) W (by omega) (by rw [mk_size]; exact hml)
                      rw [bl_mk] at this
                      exact this
                    have HPT2 := Lib.hid hpt2
                    clear hpt2
                    go_wp2_with fail
                    go_quiet ((go_at_call 37; exact Calls.quiet_of (HPT2.out _)))
                    go_wp2_with fail
                    go_ret3
                    exact ⟨by rw [go_off HMj.out HFD.out (takes_yes u _ m HM0.out HFI.out HP.out HG2.out), HM0.out]; rfl, pw_below_drewN HB5.out _⟩
            · go_wp2_with fail
              go_ret3
              exact ⟨by rw [HMj.out, List.drop_eq_nil_of_le (by omega)]; rfl, HB2.out⟩
end Go.Proofs.YtnolfopgijgpcaaDoor.Rm
/- The walk of the reference's Unmap. -/
namespace Go.Proofs.YtnolfopgijgpcaaDoor.Rm
set_option linter.unusedVariables false
open Go.Lib Go.RowKit Go.Proofs.YtnolfopgijgpcaaDoor.Nm Go.Proofs.YtnolfopgijgpcaaDoor.PRefsMapped Go.Proofs.YtnolfopgijgpcaaDoorW.PrintWords

theorem unmap_drop (all : List R) (l : List S55) (i : Nat) (hi : i < l.length) (t : By) : unmapL all (rs (l.drop i)) t =
    if backs (toR l[i]) t && ((mapL all (putL (bl l[i].f0) (fitsL (bl l[i].f1) t).1)).2.2 && (mapL all (putL (bl l[i].f0) (fitsL (bl l[i].f1) t).1)).1 == t) then (putL (bl l[i].f0) (fitsL (bl l[i].f1) t).1, true) else unmapL all (rs (l.drop (i + 1))) t := by
  unfold rs
  rw [List.drop_eq_getElem_cons hi, List.map_cons]
  rfl
theorem backs_fit (u : S55) (t : By) (h : (fitsL (bl u.f1) t).2 = false) : backs (toR u) t = false := by
  unfold backs
  rw [show (toR u).dst = bl u.f1 from rfl, h]; simp
theorem backs_pair (u : S55) (t : By) (h : (!u.f3 && (hasStar (bl u.f0) == hasStar (bl u.f1))) = false) : backs (toR u) t = false := by
  unfold backs
  rw [show (toR u).src = bl u.f0 from rfl, show (toR u).not = u.f3 from rfl, show (toR u).dst = bl u.f1 from rfl]
  cases h1 : u.f3
  · rw [h1] at h
    rw [show (hasStar (bl u.f0) == hasStar (bl u.f1)) = false from h]; simp
  · simp
theorem backs_yes (u : S55) (t : By) (hf : (fitsL (bl u.f1) t).2 = true) (hp : (!u.f3 && (hasStar (bl u.f0) == hasStar (bl u.f1))) = true) : backs (toR u) t = true := by
  unfold backs
  rw [show (toR u).src = bl u.f0 from rfl, show (toR u).not = u.f3 from rfl, show (toR u).dst = bl u.f1 from rfl, hf, Bool.and_true, hp]
theorem un_no {a b c d : By × Bool} {p q : Bool} (h1 : a = b) (h2 : b = if p && q then c else d) (h3 : p = false) : a = d := by rw [h1, h2, h3]; rfl
theorem un_on {a b c d : By × Bool} {p q : Bool} (h1 : a = b) (h2 : b = if p && q then c else d) (h3 : p = true) (h4 : q = false) : a = d := by rw [h1, h2, h3, h4]; rfl
theorem un_off {a b c d : By × Bool} {p q : Bool} (h1 : a = b) (h2 : b = if p && q then c else d) (h3 : p = true) (h4 : q = true) : a = c := by rw [h1, h2, h3, h4]; rfl
/-- What Unmap answers. -/
def backV (y : By × Bool) : Ending := .returned (.tuple #[.string (mk y.1), .bool y.2])
theorem eq_bl (a : By) (t : ByteArray) : ((mk a).toList == t.toList) = (a == bl t) := by rw [toList_bl, toList_bl, bl_mk]

set_option maxRecDepth 100000 in
set_option maxHeartbeats 4000000 in
theorem refUnmap_walk (M : Nat) (hM : 2 * M ≤ big) (l : List S55) (t : ByteArray) (A : Option Addr) (c : Nat) (w : World) (hC : Hid (Kd.C k55 w A l.length l)) (hc : l.length ≤ c) (hr : Hid (Rok M l)) (ht : t.size ≤ M) :
    Calls Tryd.prog 19 #[.slice A l.length c, .string t] w fun e w' => e = backV (unmapL (rs l) (rs l) (bl t)) ∧ Below w.heap.size w w' := by
  have hm := len_max hC.out
  go_enter Tryd.func19, Tryd.ntmps19
  go_wp2_with fail
  go_loopw [6] (fun v6 wr => ∃ (i : Nat), i ≤ l.length ∧ v6 = .int .i64 i ∧ Below w.heap.size w wr ∧ unmapL (rs l) (rs l) (bl t) = unmapL (rs l) (rs (l.drop i)) (bl t)) (fun v6 _ => l.length - (intOf v6).toNat)
  case atStart => exact ⟨0, Nat.zero_le _, rfl, Below.refl _ _, by rw [List.drop_zero]⟩
  case round =>
    obtain ⟨i, hi, rfl, hb, hrec⟩ := hrel
    have HB := Lib.hid hb
    have HR := Lib.hid hrec
    clear hb hrec
    by_cases hlt : i < l.length
    · have hu := hr.out l[i] (List.getElem_mem hlt)
      obtain ⟨ad, rfl, h0, h1, h2, h3⟩ := rule_at (Kd.C_below hC.out HB.out) i hlt
      have hfd := unmap_drop (rs l) l i hlt (bl t)
      obtain ⟨u, hu0⟩ : ∃ u, l[i] = u := ⟨_, rfl⟩
      rw [hu0] at h0 h1 h2 h3 hu hfd
      have HF := Lib.hid (refFits u.f1 t wr (by omega) (by omega))
      obtain ⟨m, hm0⟩ : ∃ m, (fitsL (bl u.f1) (bl t)).1 = m := ⟨_, rfl⟩
      have hml : m.length ≤ t.size := by have := fitsL_length (bl u.f1) (bl t); rw [hm0, bl_length] at this; omega
      rw [hm0] at HF hfd
      have HFD := Lib.hid hfd
      cases hf : (fitsL (bl u.f1) (bl t)).2
      · have HFI := Lib.hid hf
        rw [hf] at HF
        clear hf hu0 hfd hm0
        go_wp2_with fail
        refine HF.out.mono ?_
        rintro e w2 ⟨rfl, n, rfl⟩
        go_wp2_with fail
        go_roundw
        case rel => exact ⟨i + 1, by omega, by go_num, pw_below_drewN HB.out n, un_no HR.out HFD.out (backs_fit u _ HFI.out)⟩
        case measure => simp [intOf]; omega
      · have HFI := Lib.hid hf
        rw [hf] at HF
        clear hf hu0 hfd hm0
        go_wp2_with fail
        refine HF.out.mono ?_
        rintro e w2 ⟨rfl, n, rfl⟩
        go_wp2_with fail
        have HPR := Lib.hid (refPair u (wr.drewN n) (by omega) (by omega))
        cases hp : (!u.f3 && (hasStar (bl u.f0) == hasStar (bl u.f1)))
        · rw [hp] at HPR
          have HP := Lib.hid hp
          clear hp
          refine HPR.out.mono ?_
          rintro e w3 ⟨rfl, hb3⟩
          have HB3 := Lib.hid ((pw_below_drewN HB.out n).trans (hb3.mono HB.out.size))
          clear hb3
          go_wp2_with fail
          go_roundw
          case rel => exact ⟨i + 1, by omega, by go_num, HB3.out, un_no HR.out HFD.out (backs_pair u _ HP.out)⟩
          case measure => simp [intOf]; omega
        · rw [hp] at HPR
          have HP := Lib.hid hp
          clear hp
          refine HPR.out.mono ?_
          rintro e w3 ⟨rfl, hb3⟩
          have HB3 := Lib.hid ((pw_below_drewN HB.out n).trans (hb3.mono HB.out.size))
          have h0w := pw_cell_below hb3 (by rw [World.cell?_drewN]; exact h0)
          clear hb3 h0 h1 h2 h3
          have HPT := Lib.hid (refPut u.f0 (mk m) w3 (by omega) (by rw [mk_size]; omega))
          rw [bl_mk] at HPT
          go_wp2_with fail
          refine HPT.out.mono ?_
          rintro e w4 ⟨rfl, n4, rfl⟩
          obtain ⟨y, hy⟩ : ∃ y, putL (bl u.f0) m = y := ⟨_, rfl⟩
          have hyl : y.length ≤ big := by have := putL_length (bl u.f0) m; rw [hy, bl_length] at this; omega
          rw [hy] at HFD
          rw [hy]
          clear hy HPT
          have HMP := Lib.hid (refMap_walk M (by omega) l (mk y) (some ad) c (w3.drewN n4) (Lib.hid (Kd.C_below hC.out (pw_below_drewN HB3.out n4))) hc hr (by rw [mk_size]; exact hyl))
          rw [bl_mk] at HMP
          go_wp2_with fail
          refine HMP.out.mono ?_
          rintro e w5 ⟨rfl, hb5⟩
          have HB5 := Lib.hid ((pw_below_drewN HB3.out n4).trans (hb5.mono HB3.out.size))
          clear hb5 HMP
          obtain ⟨z, hz⟩ : ∃ z, mapL (rs l) y = z := ⟨_, rfl⟩
          rw [hz] at HFD
          rw [hz]
          clear hz
          obtain ⟨z1, z2, z3⟩ := z
          unfold mapV
          cases z3
          · go_wp2_with fail
            go_roundw
            case rel => exact ⟨i + 1, by omega, by go_num, HB5.out, un_on HR.out HFD.out (backs_yes u _ HFI.out HP.out) rfl⟩
            case measure => simp [intOf]; omega
          · cases hq : (z1 == bl t)
            · have hq2 : ((mk z1).toList == t.toList) = false := by rw [eq_bl]; exact hq
              have HQ := Lib.hid hq
              clear hq
              go_wp2_with fail
              go_roundw
              case rel => exact ⟨i + 1, by omega, by go_num, HB5.out, un_on HR.out HFD.out (backs_yes u _ HFI.out HP.out) (by rw [HQ.out]; rfl)⟩
              case measure => simp [intOf]; omega
            · have hq2 : ((mk z1).toList == t.toList) = true := by rw [eq_bl]; exact hq
              have HQ := Lib.hid hq
              clear hq
              go_wp2_with fail
              go_ret2
              exact ⟨by rw [un_off HR.out HFD.out (backs_yes u _ HFI.out HP.out) (by rw [HQ.out]; rfl)]; rfl, HB5.out⟩
    · go_wp2_with fail
      go_ret2
      exact ⟨by rw [HR.out, List.drop_eq_nil_of_le (by omega)]; rfl, HB.out⟩
end Go.Proofs.YtnolfopgijgpcaaDoor.Rm
