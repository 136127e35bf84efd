import Derived.Test.YtnolfopgijgpcaaDoorQe
import Derived.Lib.SmallJoins
import Derived.Deep.Slices
import Derived.Deep.Strs
import Derived.SizedLaws
import Derived.Test.YtnolfopgijgpcaaDoorRows
import Derived.Test.YtnolfopgijgpcaaDoorTie
import Derived.Test.YtnolfopgijgpcaaDoorCards
import Derived.Lib.LaidIn
import Derived.Lib.LaidU8T
import Derived.Deep.Matrix
import Derived.Deep.DeepHandedRow
import Derived.Deep.DeepWitnessRowRef
import Derived.ProofKit
import Derived.OpenShut
import Derived.Carry
import Derived.SevenTiedAt
/- The walk of the law RefsMapped. -/
namespace Go.Proofs.YtnolfopgijgpcaaDoor.Rm
open Go.Lib Go.RowKit Go.Proofs.YtnolfopgijgpcaaDoor.Nm Go.Proofs.YtnolfopgijgpcaaDoor.PRefsMapped Go.Proofs.YtnolfopgijgpcaaDoorW.PrintWords Go.Proofs.YtnolfopgijgpcaaDoorW.PrintLast Go.Proofs.YtnolfopgijgpcaaDoorW.PrintMore
set_option linter.unusedVariables false
set_option linter.unusedSimpArgs false

theorem C_takeN {α : Type} {k : Kd α} {w : World} {A : Option Addr} {xs : List α} (h : k.C w A xs.length xs) (N : Nat) : k.C w A (xs.take N).length (xs.take N) := by
  by_cases hN : N ≤ xs.length
  · exact Kd.C_take h hN
  · rw [List.take_of_length_le (by omega)]; exact h
theorem C_front {α : Type} {k : Kd α} {w : World} {A : Option Addr} {xs ys : List α} (h : k.C w A (xs ++ ys).length (xs ++ ys)) : k.C w A xs.length xs := by
  have h1 := Kd.C_take (m := xs.length) h (by simp)
  rw [List.take_left] at h1
  exact h1
/-- What the law's box holds, unfrozen. -/
def Boxed (w : World) (k : Nat) (u v : Value) : Prop := w.cell? ⟨k, 0, none⟩ = some u ∧ w.cell? ⟨k, 1, none⟩ = some v ∧ w.frozen? ⟨k, 0, none⟩ = false ∧ w.frozen? ⟨k, 1, none⟩ = false
theorem Boxed.below {w w1 : World} {k : Nat} {u v : Value} (h : Boxed w k u v) (hb : Below w.heap.size w w1) : Boxed w1 k u v := by
  have hk := World.block_lt_of_cell? w ⟨k, 0, none⟩ h.1
  exact ⟨pw_cell_below hb h.1, pw_cell_below hb h.2.1, by rw [hb.frozen hk]; exact h.2.2.1, by rw [hb.frozen (p := ⟨k, 1, none⟩) hk]; exact h.2.2.2⟩

set_option maxRecDepth 100000 in
set_option maxHeartbeats 4000000 in
theorem mapped_walk (M : Nat) (hM : 2 * M ≤ big) (l0 : List S55) (L0 : List ByteArray) (A : Option Addr) (c : Nat) (B : Option Addr) (d : Nat) (w : World) (hT : Hid (Lib.Utf8Tabs 0 1 w)) (hC0 : Kd.C k55 w A l0.length l0) (hc0 : l0.length ≤ c) (hr0 : Rok M l0)
    (hD0 : Kd.C Kd.string w B L0.length L0) (hd0 : L0.length ≤ d) (hn0 : Nok M L0) (hl0 : l0.length ≤ big) (hL0 : L0.length ≤ big) :
    Calls Tryd.prog 5 #[.agg #[.slice A l0.length c, .slice B L0.length d]] w fun e w' => e = .returned (.bool true) ∧ Below w.heap.size w w' := by
  obtain ⟨l, hl⟩ : ∃ l, l0.take 64 = l := ⟨_, rfl⟩
  obtain ⟨L, hL⟩ : ∃ L, L0.take 200 = L := ⟨_, rfl⟩
  have el : min l0.length 64 = l.length := by rw [← hl, List.length_take]; omega
  have eL : min L0.length 200 = L.length := by rw [← hL, List.length_take]; omega
  have hl64 : l.length ≤ 64 := by omega
  have hL200 : L.length ≤ 200 := by omega
  have hC : Hid (Kd.C k55 w A l.length l) := Lib.hid (by rw [← hl]; exact C_takeN hC0 64)
  have hD : Hid (Kd.C Kd.string w B L.length L) := Lib.hid (by rw [← hL]; exact C_takeN hD0 200)
  have hr : Hid (Rok M l) := Lib.hid (fun u hu => hr0 u (by rw [← hl] at hu; exact List.mem_of_mem_take hu))
  have hn : Hid (Nok M L) := Lib.hid (fun u hu => hn0 u (by rw [← hL] at hu; exact List.mem_of_mem_take hu))
  have hc : l.length ≤ c := by omega
  have hd : L.length ≤ d := by omega
  have HF := fun W => Lib.hid (few_walk A B l0.length c L0.length d W hc0 hd0 hl0 hL0)
  rw [el, eL] at HF
  have HF' := HF
  clear HF hC0 hD0 hr0 hn0 hl hL el eL
  go_enter Tryd.func5, Tryd.ntmps5
  go_wp2_with fail
  obtain ⟨wb, hwb⟩ : ∃ wb, w.alloc (.cells #[.slice A l0.length c, .slice B L0.length d] 42) = wb := ⟨_, rfl⟩
  obtain ⟨kb, hkb⟩ : ∃ kb, w.heap.size = kb := ⟨_, rfl⟩
  have hbox : Boxed wb kb (.slice A l0.length c) (.slice B L0.length d) := by subst hwb hkb; refine ⟨?_, ?_, ?_, ?_⟩ <;> simp [go_sem]
  have hBb : Below w.heap.size w wb := hwb ▸ (Below.refl _ _).alloc (Nat.le_refl _) _
  rw [hwb, hkb]
  have HKB := Lib.hid hkb
  clear hwb hkb
  refine (HF' _).out.mono ?_
  rintro e w1 ⟨rfl, hb⟩
  obtain ⟨hx0, hx1, hz0, hz1⟩ := hbox.below hb
  have HB1 := Lib.hid (hBb.trans (hb.mono hBb.size))
  clear hb hbox hBb
  go_wp2_with fail
  have hBs : Below w.heap.size w ((w1.setCell ⟨kb, 0, none⟩ (.slice A l.length c)).setCell ⟨kb, 1, none⟩ (.slice B L.length d)) := (HB1.out.setCell (by rw [← HKB.out]; exact Nat.le_refl _) _).setCell (by rw [← HKB.out]; exact Nat.le_refl _) _
  have hbx : Boxed ((w1.setCell ⟨kb, 0, none⟩ (.slice A l.length c)).setCell ⟨kb, 1, none⟩ (.slice B L.length d)) kb (.slice A l.length c) (.slice B L.length d) := by refine ⟨?_, ?_, ?_, ?_⟩ <;> simp [go_sem, hx0, hx1, hz0, hz1]
  obtain ⟨ws, hws⟩ : ∃ ws, (w1.setCell ⟨kb, 0, none⟩ (.slice A l.length c)).setCell ⟨kb, 1, none⟩ (.slice B L.length d) = ws := ⟨_, rfl⟩
  rw [hws] at hBs hbx ⊢
  clear hws hx0 hx1 hz0 hz1
  have HBS := Lib.hid hBs
  have HBX := Lib.hid hbx
  clear hBs hbx HB1
  refine (rules_walk A c l ws (Kd.C_below hC.out HBS.out) hc hl64).mono ?_
  rintro e w2 ⟨Ao, co, rfl, hR, hb⟩
  have hRC := Kd.R_reads' hR
  have HRC := Lib.hid (show Kd.C k55 w2 Ao (l ++ [markR]).length (l ++ [markR]) from hRC.2.2)
  have hco : l.length + 1 ≤ co := hRC.2.1
  have HCo := Lib.hid (C_front HRC.out)
  have HB2 := Lib.hid (HBS.out.trans (hb.mono HBS.out.size))
  have HX2 := Lib.hid (HBX.out.below hb)
  have HT2 := Lib.hid (tabs_below hT.out HB2.out)
  have HC2 := Lib.hid (Kd.C_below hC.out HB2.out)
  have HD2 := Lib.hid (Kd.C_below hD.out HB2.out)
  clear hb hR hRC HBS HBX hT hC hD
  go_wp2_with fail
  go_loopw [4] (fun v4 wr => ∃ (i : Nat), i ≤ L.length ∧ v4 = .int .i64 i ∧ Below w2.heap.size w2 wr) (fun v4 _ => L.length - (intOf v4).toNat)
  case atStart => exact ⟨0, Nat.zero_le _, rfl, Below.refl _ _⟩
  case round =>
    obtain ⟨i, hi, rfl, hb⟩ := hrel
    have HB := Lib.hid hb
    clear hb
    obtain ⟨hx0, hx1, _, _⟩ := HX2.out.below HB.out
    by_cases hlt : i < L.length
    · have hu := hn.out L[i] (List.getElem_mem hlt)
      obtain ⟨ad, rfl, h0⟩ := name_at (Kd.C_below HD2.out HB.out) i hlt
      obtain ⟨n, hn0⟩ : ∃ n, L[i] = n := ⟨_, rfl⟩
      rw [hn0] at h0 hu
      clear hn0
      have H1 := Lib.hid (progMap_walk M (by omega) l n Ao co wr (Lib.hid (tabs_below HT2.out HB.out)) (Lib.hid (Kd.C_below HCo.out HB.out)) (by omega) hr (by omega))
      go_wp2_with fail
      refine H1.out.mono ?_
      rintro e w3 ⟨rfl, hb⟩
      have HB3 := Lib.hid (HB.out.trans (hb.mono HB.out.size))
      clear hb H1 hx0 hx1
      obtain ⟨hx0, hx1, _, _⟩ := HX2.out.below HB3.out
      have H2 := Lib.hid (refMap_walk M (by omega) l n A c w3 (Lib.hid (Kd.C_below HC2.out HB3.out)) hc hr (by omega))
      obtain ⟨z, hz⟩ : ∃ z, mapL (rs l) (bl n) = z := ⟨_, rfl⟩
      rw [hz] at H2 ⊢
      clear hz
      obtain ⟨z1, z2, z3⟩ := z
      unfold mapV at H2 ⊢
      go_wp2_with fail
      refine H2.out.mono ?_
      rintro e w4 ⟨rfl, hb⟩
      have HB4 := Lib.hid (HB3.out.trans (hb.mono HB3.out.size))
      clear hb H2 hx0 hx1
      obtain ⟨hx0, hx1, _, _⟩ := HX2.out.below HB4.out
      have H3 := Lib.hid (progUnmap_walk M hM l n Ao co w4 (Lib.hid (tabs_below HT2.out HB4.out)) (Lib.hid (Kd.C_below HCo.out HB4.out)) (by omega) hr hu)
      go_wp2_with fail
      refine H3.out.mono ?_
      rintro e w5 ⟨rfl, hb⟩
      have HB5 := Lib.hid (HB4.out.trans (hb.mono HB4.out.size))
      clear hb H3 hx0 hx1
      obtain ⟨hx0, hx1, _, _⟩ := HX2.out.below HB5.out
      have H4 := Lib.hid (refUnmap_walk M hM l n A c w5 (Lib.hid (Kd.C_below HC2.out HB5.out)) hc hr hu)
      obtain ⟨y, hy⟩ : ∃ y, unmapL (rs l) (rs l) (bl n) = y := ⟨_, rfl⟩
      rw [hy] at H4 ⊢
      clear hy
      obtain ⟨y1, y2⟩ := y
      unfold backV at H4 ⊢
      go_wp2_with fail
      refine H4.out.mono ?_
      rintro e w6 ⟨rfl, hb⟩
      have HB6 := Lib.hid (HB5.out.trans (hb.mono HB5.out.size))
      clear hb H4 hx0 hx1
      go_wp2_with fail
      go_roundw
      case rel => exact ⟨i + 1, by omega, by go_num, HB6.out⟩
      case measure => simp [intOf]; omega
    · go_wp2_with fail
      refine (texts_walk B d L wr (Kd.C_below HD2.out HB.out) hd hL200).mono ?_
      rintro e w3 ⟨At, ct, rfl, hR, hb⟩
      have hRC := Kd.R_reads' hR
      have HUC := Lib.hid (show Kd.C Kd.string w3 At (L ++ [mark0, mark0]).length (L ++ [mark0, mark0]) from hRC.2.2)
      have hct : L.length + 2 ≤ ct := hRC.2.1
      have HDt := Lib.hid (C_front HUC.out)
      have HB3 := Lib.hid (HB.out.trans (hb.mono HB.out.size))
      clear hb hR hRC hx0 hx1
      have H1 := Lib.hid (progClash_walk M (by omega) l L Ao co At ct w3 (Lib.hid (tabs_below HT2.out HB3.out)) (Lib.hid (Kd.C_below HCo.out HB3.out)) (by omega) hr HDt (by omega) hn)
      go_wp2_with fail
      refine H1.out.mono ?_
      rintro e w4 ⟨⟨r1, r2⟩, rfl, hle, hb⟩
      have HB4 := Lib.hid (HB3.out.trans (hb.mono HB3.out.size))
      have HUC4 := Lib.hid (Kd.C_below HUC.out hb)
      have HLE := Lib.hid hle
      clear hb hle H1 HUC HDt
      obtain ⟨hx0, hx1, _, _⟩ := HX2.out.below HB4.out
      have H2 := Lib.hid (refClash_walk M (by omega) l L A c B d w4 (Lib.hid (Kd.C_below HC2.out HB4.out)) hc hr (Lib.hid (Kd.C_below HD2.out HB4.out)) hd hn hL200)
      unfold clashV at H2 ⊢
      go_wp2_with fail
      refine H2.out.mono ?_
      rintro e w5 ⟨r', rfl, hle, hb⟩
      obtain rfl := hle.unique HLE.out
      have HB5 := Lib.hid (HB4.out.trans (hb.mono HB4.out.size))
      have HUC5 := Lib.hid (Kd.C_below HUC4.out hb)
      clear hb hle H2 HUC4 hx0 hx1 HLE
      obtain ⟨hx0, hx1, _, _⟩ := HX2.out.below HB5.out
      have H3 := Lib.hid (intact_walk l Ao A co c w5 (Lib.hid (Kd.C_below HRC.out HB5.out)) hco (Lib.hid (Kd.C_below HC2.out HB5.out)) hc hl64)
      have H4 := fun W (hb : Below w5.heap.size w5 W) => Lib.hid (untold_walk L At B ct d W (Lib.hid (Kd.C_below HUC5.out hb)) hct (Lib.hid (Kd.C_below (Kd.C_below HD2.out HB5.out) hb)) hd hL200)
      have H4' := H4
      clear H4
      go_wp2_with fail
      refine H3.out.mono ?_
      rintro e w6 ⟨rfl, n1, rfl⟩
      go_wp2_with fail
      refine (H4' _ (pw_below_drewN (Below.refl _ _) _)).out.mono ?_
      rintro e w7 ⟨rfl, n2, rfl⟩
      go_wp2_with fail
      refine (right_walk _ (tabs_below HT2.out (pw_below_drewN HB5.out _))).mono ?_
      rintro e w8 ⟨rfl, hb⟩
      have HB8 := Lib.hid (HB2.out.trans (((pw_below_drewN HB5.out _).trans (hb.mono HB5.out.size)).mono HB2.out.size))
      clear hb
      go_wp2_with fail
      go_ret
      exact ⟨rfl, HB8.out⟩
end Go.Proofs.YtnolfopgijgpcaaDoor.Rm
/- How the arguments of the laws on rules and texts read: a row of rules, a row of strings; their sizes. -/
namespace Go.Proofs.YtnolfopgijgpcaaDoor.Rm
open Go.Lib Go.RowKit Go.Deep Go.Joins Go.ChangeShapes Go.WideShapes Go.Proofs.YtnolfopgijgpcaaDoor.Nm Go.Proofs.YtnolfopgijgpcaaDoor.PRefsMapped Go.Proofs.YtnolfopgijgpcaaDoorW.PrintWords
set_option linter.unusedVariables false

section
variable {H : Type} {enc : TypeId × Value → H} {W : World}
theorem weights_mem_all {P : Program} {e : TypeId} : ∀ {ds : List (DataW H)} {d : DataW H}, d ∈ ds → ∀ n ∈ d.weights P e, n ∈ DataW.weightsAll P e ds
  | d0 :: ds, d, hd, n, hn => by
    simp only [DataW.weightsAll, List.mem_append]
    rcases List.mem_cons.1 hd with rfl | hd
    · exact .inl hn
    · exact .inr (weights_mem_all hd n hn)
set_option maxRecDepth 100000 in
theorem open_rule {sp : Nat → Bool} {b : Nat} {held : Bool} {n : Nat} {cs : List Value} {y : DataW H × List MemPlace} (h : DataW.trod enc Tryd.prog W b sp held n 55 cs = some y) :
    ∃ u : S55, cs = [.string u.f0, .string u.f1, .bool u.f2, .bool u.f3] ∧ y.1 = .agg [.lit (.string u.f0.data.toList), .lit (.string u.f1.data.toList), .lit (.bool u.f2), .lit (.bool u.f3)] := by
  obtain ⟨y0, y1, y2, y3, n', rfl, hl, h0, h1, h2, h3⟩ := trod_struct4 Tryd.underlying55 h
  have hc : cs.length = 4 := hl.trans (by kernel_rfl)
  match cs, hc with
  | [c0, c1, c2, c3], _ =>
    have k9 : Tryd.prog.cellsOf 9 = 1 := by kernel_rfl
    have k4 : Tryd.prog.cellsOf 4 = 1 := by kernel_rfl
    simp only [k9, k4, List.drop_zero, List.drop_succ_cons, List.take_succ_cons, List.take_zero] at h0 h1 h2 h3
    obtain ⟨s0, e0, rfl, _⟩ := DataW.trod_string Tryd.underlying9 h0
    obtain ⟨s1, e1, rfl, _⟩ := DataW.trod_string Tryd.underlying9 h1
    obtain ⟨b2, e2, rfl⟩ := DataW.trod_bool Tryd.underlying4 h2
    obtain ⟨b3, e3, rfl⟩ := DataW.trod_bool Tryd.underlying4 h3
    simp only [List.cons.injEq, and_true] at e0 e1 e2 e3
    subst e0 e1 e2 e3
    exact ⟨⟨s0, s1, b2, b3⟩, rfl, rfl⟩

set_option maxRecDepth 100000 in
theorem open_rules (N : Nat) {sp : Nat → Bool} {b : Nat} {held : Bool} {n : Nat} {v : Value} {y : DataW H × List MemPlace} (h : DataW.trod enc Tryd.prog W b sp held n 39 [v] = some y) (hw : ∀ k ∈ y.1.weights Tryd.prog 39, k ≤ N) :
    ∃ (A : Option Addr) (l : List S55) (c : Nat), v = .slice A l.length c ∧ l.length ≤ c ∧ Kd.C k55 W A l.length l ∧ Rok N l ∧ l.length ≤ N := by
  rcases open_slice Tryd.underlying39 h with ⟨h0, _⟩ | ⟨a, len, cap, m, n', D, Pl, h0, _, hlc, hcm, hm, rfl, hel⟩
  · obtain rfl : v = .slice none 0 0 := by simpa using h0
    exact ⟨none, [], 0, rfl, Nat.le_refl _, ⟨rfl, by simp, fun h => by simp at h⟩, fun u hu => by simp at hu, Nat.zero_le _⟩
  · obtain rfl : v = .slice (some a) len cap := by simpa using h0
    have hlm : len ≤ m := by rw [hm]; split <;> omega
    have k55c : Tryd.prog.cellsOf 55 = 4 := by kernel_rfl
    have each : ∀ i, i < len → ∃ u : S55, W.cells? b (a.add (i * 4)) 4 = some [.string u.f0, .string u.f1, .bool u.f2, .bool u.f3] ∧ D i = .agg [.lit (.string u.f0.data.toList), .lit (.string u.f1.data.toList), .lit (.bool u.f2), .lit (.bool u.f3)] := fun i hi => by
      obtain ⟨cs', h1, h2⟩ := hel i (by omega)
      rw [k55c] at h1
      obtain ⟨u, rfl, h3⟩ := open_rule h2
      exact ⟨u, h1, h3⟩
    have : Inhabited S55 := ⟨⟨⟨#[]⟩, ⟨#[]⟩, false, false⟩⟩
    obtain ⟨U, hU⟩ := choose_lt each
    have hlen : ((List.range len).map U).length = len := by simp
    have hsz : ∀ i, i < len → ∀ k ∈ (D i).weights Tryd.prog 55, k ≤ N := fun i hi k hk => hw k (by
      simp only [DataW.weights, Tryd.underlying39, List.mem_cons, List.mem_append]
      exact .inr (.inl (weights_mem_all (List.mem_map_of_mem (List.mem_range.2 hi)) k hk)))
    refine ⟨some a, (List.range len).map U, cap, by rw [hlen], by rw [hlen]; exact hlc, ⟨rfl, by rw [hlen]; unfold maxLen at hcm; omega, fun _ => ⟨a, rfl, fun j p hj => ?_⟩⟩, fun u hu => ?_, ?_⟩
    · rw [List.getElem?_map] at hj
      obtain ⟨i, hi, rfl⟩ := Option.map_eq_some_iff.1 hj
      obtain ⟨hjl, rfl⟩ := List.getElem?_eq_some_iff.1 hi
      rw [List.length_range] at hjl
      rw [List.getElem_range]
      refine ⟨_, rfl, k55_mk W (U j), fun i u hu => ?_⟩
      obtain ⟨_, _, hcell⟩ := World.cells?_some (hU j hjl).1
      have hi4 : i < 4 := by
        have := (List.getElem?_eq_some_iff.1 hu).1
        simpa using this
      have := hcell i hi4
      rw [hu] at this
      rw [← this]
      congr 1
      show a.add (j * 4 + i) = (a.add (j * 4)).add i
      rw [Go.Deep.add_add]
    · obtain ⟨i, hi, rfl⟩ := List.mem_map.1 hu
      have hi := List.mem_range.1 hi
      have h4 := hsz i hi
      rw [(hU i hi).2] at h4
      simp only [DataW.weights, Tryd.underlying55, DataW.weightsEach, List.map_cons, List.map_nil, List.mem_append, List.mem_cons] at h4
      exact ⟨h4 (U i).f0.data.toList.length (.inl (.inl rfl)), h4 (U i).f1.data.toList.length (.inr (.inl (.inl rfl)))⟩
    · rw [hlen]
      have := hw ((((List.range len).map D).length + ((List.range (m - len)).map fun j => D (len + j)).length) * Tryd.prog.bytesOf 55) (by simp [DataW.weights, Tryd.underlying39])
      rw [show Tryd.prog.bytesOf 55 = 40 by kernel_rfl] at this
      simp at this
      omega

set_option maxRecDepth 100000 in
theorem open_texts (N : Nat) {sp : Nat → Bool} {b : Nat} {held : Bool} {n : Nat} {v : Value} {y : DataW H × List MemPlace} (h : DataW.trod enc Tryd.prog W b sp held n 40 [v] = some y) (hw : ∀ k ∈ y.1.weights Tryd.prog 40, k ≤ N) :
    ∃ (A : Option Addr) (l : List ByteArray) (c : Nat), v = .slice A l.length c ∧ l.length ≤ c ∧ Kd.C Kd.string W A l.length l ∧ Nok N l ∧ l.length ≤ N := by
  rcases open_strs Tryd.underlying40 Tryd.underlying9 (by kernel_rfl) h with ⟨h0, _⟩ | ⟨a, len, cap, m, S, h0, _, hlc, hcm, hm, rfl, hel⟩
  · obtain rfl : v = .slice none 0 0 := by simpa using h0
    exact ⟨none, [], 0, rfl, Nat.le_refl _, ⟨rfl, by simp, fun h => by simp at h⟩, fun u hu => by simp at hu, Nat.zero_le _⟩
  · obtain rfl : v = .slice (some a) len cap := by simpa using h0
    have hlm : len ≤ m := by rw [hm]; split <;> omega
    have hlen : ((List.range len).map S).length = len := by simp
    refine ⟨some a, (List.range len).map S, cap, by rw [hlen], by rw [hlen]; exact hlc, ⟨rfl, by rw [hlen]; unfold maxLen at hcm; omega, fun _ => ⟨a, rfl, fun j p hj => ?_⟩⟩, fun u hu => ?_, ?_⟩
    · rw [List.getElem?_map] at hj
      obtain ⟨i, hi, rfl⟩ := Option.map_eq_some_iff.1 hj
      obtain ⟨hjl, rfl⟩ := List.getElem?_eq_some_iff.1 hi
      rw [List.length_range] at hjl
      rw [List.getElem_range]
      refine ⟨[.string (S j)], rfl, rfl, fun i u hu => ?_⟩
      obtain ⟨hi1, rfl⟩ := List.getElem?_eq_some_iff.1 hu
      have hi0 : i = 0 := by simpa using hi1
      subst hi0
      have := (hel j (by omega)).1
      show W.cell? (a.add (j * 1 + 0)) = _
      rw [Nat.mul_one, Nat.add_zero]
      exact this
    · obtain ⟨i, hi, rfl⟩ := List.mem_map.1 hu
      have hi := List.mem_range.1 hi
      refine hw _ ?_
      simp only [DataW.weights, Tryd.underlying40, List.mem_cons, List.mem_append]
      refine .inr (.inl (weights_mem_all (d := .lit (.string (S i).data.toList)) (List.mem_map.2 ⟨i, List.mem_range.2 hi, rfl⟩) _ ?_))
      show (S i).data.toList.length ∈ [(S i).data.toList.length]
      exact List.mem_singleton.2 rfl
    · rw [hlen]
      have := hw ((((List.range len).map fun i => (DataW.lit (.string (S i).data.toList) : DataW H)).length + ((List.range (m - len)).map fun j => (DataW.lit (.string (S (len + j)).data.toList) : DataW H)).length) * Tryd.prog.bytesOf 9) (by simp [DataW.weights, Tryd.underlying40])
      rw [show Tryd.prog.bytesOf 9 = 16 by kernel_rfl] at this
      simp at this
      omega
end
end Go.Proofs.YtnolfopgijgpcaaDoor.Rm
/- The law RefsMapped returns true for every list of texts: Check is the document's. Condition: utf8's two tables start as the program's text lays them (the tied card). -/
namespace Go.Proofs.YtnolfopgijgpcaaDoor.Rm
set_option linter.unusedVariables false
open Go.Shelf Go.ChangeShapes Go.WideShapes Go.ChangeAt Go.RowKit Go.Lib Go.Deep
open Go.Proofs.YtnolfopgijgpcaaDoorW.PrintWords

theorem own : ownKnob Tryd.prog.godebug = none := by kernel_rfl

/-- THE WITNESS: the settled world, the two variables holding what their initialisers lay. -/
noncomputable def laidWorld (os : Os) : World :=
  let w0 := World.holding Tryd.prog os ⟨#[], #[], []⟩
  let put (h : Array Obj) (g : Nat) (cs : Array Value) : Array Obj := h.modify g fun
    | .cells _ t frozen => .cells cs t frozen
    | o => o
  let h1 := put w0.heap 0 (Lib.firstTab.map fun z => Value.int .u8 z).toArray
  let h2 := put h1 1 ((List.range 16).flatMap fun i => [Value.int .u8 (Lib.accLo i), Value.int .u8 (Lib.accHi i)]).toArray
  { w0 with heap := h2 }
theorem first_eq : Rows.laid_unicode_utf8_first = Lib.firstData := by kernel_rfl
theorem accept_eq : (Rows.laid_unicode_utf8_acceptRanges : DataW Unit) = Lib.acceptData := by kernel_rfl
theorem laid_met (os : Os) (args : Array Value) : laidMet Tryd.prog [("unicode/utf8.acceptRanges", Rows.laid_unicode_utf8_acceptRanges), ("unicode/utf8.first", Rows.laid_unicode_utf8_first)] ((laidWorld os).forCall (fun _ _ => 0) ⟨#[], args, []⟩).memory := by
  rw [first_eq, accept_eq]
  exact (LaidIn.of_run (l := [("unicode/utf8.acceptRanges", Lib.acceptData), ("unicode/utf8.first", Lib.firstData)]) [1, 0] 8 (by kernel_rfl) (by kernel_rfl) (by kernel_rfl) (by kernel_rfl)).met

theorem tabs_of_laid {W : World} (hL : laidMet Tryd.prog [("unicode/utf8.acceptRanges", Rows.laid_unicode_utf8_acceptRanges), ("unicode/utf8.first", Rows.laid_unicode_utf8_first)] W) : Lib.Utf8Tabs 0 1 W := by
  rw [first_eq, accept_eq] at hL
  exact utf8Tabs_of_readsT (U8Types.of196 Tryd.laysValid) ⟨by kernel_rfl, by kernel_rfl, by kernel_rfl, by kernel_rfl, by kernel_rfl, by kernel_rfl, by kernel_rfl⟩ (Lib.laidMet.reads hL (.tail _ (.head _))) (Lib.laidMet.reads hL (.head _))

set_option maxRecDepth 100000 in
/-- WHAT THE WALK GIVES, for every argument and every world that holds the two tables. -/
theorem contract (H : Type) (enc : TypeId × Value → H) (W : World) (base : Nat) (args : Array Value) (ds gs : List (DataW H)) (before : List MemPlace)
    (hval : ∀ (j : Nat) t v, Tryd.f5.params[j]? = some t → args[j]? = some v → Value.okWide Tryd.prog W .any base t v)
    (hW : DataW.Whole enc Tryd.prog Tryd.f5.params.toList Rows.refsMappedSpec.vars false W args.toList ds gs before)
    (hz : (DataW.weightsEach Tryd.prog (Tryd.f5.params.toList ++ (OpenSpec.ofChange Rows.refsMappedSpec).bare.plain.varTypes Tryd.prog) (ds ++ gs)).all (· ≤ reachBytes) = true) (hT : Lib.Utf8Tabs 0 1 W) :
    Calls Tryd.prog 5 args W fun e W' => ∃ v, e = .returned v ∧ Rows.refsMappedSpec.post enc Tryd.prog Tryd.f5 false true false false W args v W' := by
  have hW' := hW
  have hlt := hW.lt
  obtain ⟨p, q, hA0, hV, rfl, hfz, hnd⟩ := hW
  have hA : DataW.TrodAll enc Tryd.prog W 0 (fun _ => true) true Tryd.f5.params.toList args.toList ds p := hA0
  rw [Tryd.params5] at hA hval hz
  obtain ⟨v0, d0, rfl, rfl, h0⟩ := trodAll_one hA
  obtain ⟨rfl, rfl⟩ := trodVars_none hV
  have hok := hval 0 42 v0 rfl rfl
  clear hA0 hval
  simp only [List.append_nil] at hW' hlt
  have fin : ∀ W', Below W.heap.size W W' → Rows.refsMappedSpec.post enc Tryd.prog Tryd.f5 false true false false W #[v0] (.bool true) W' := fun W' bel =>
    ⟨_, _, _, [], _, [], hW', trodAll_mk1 (shut_bool Tryd.underlying4 _), trodAll_mk1 (Below.trod (by kernel_rfl) (by kernel_rfl) (of_decide_eq_true (by kernel_rfl)) h0 bel hlt), rfl, bel.frame _, fun h => by cases h⟩
  obtain ⟨x0, x1, y0, y1, n, rfl, rfl, rfl, hx0, hx1⟩ := Joins.open_agg2 Tryd.underlying42 (by kernel_rfl) (by kernel_rfl) hok h0
  have hwt : ∀ k ∈ (DataW.agg [y0.1, y1.1]).weights Tryd.prog 42, k ≤ reachBytes := fun k hk => by
    have := List.all_eq_true.1 hz k (DataW.weights_mem_each (j := 0) (t := 42) (d := DataW.agg [y0.1, y1.1]) rfl rfl k hk)
    exact of_decide_eq_true this
  have hw2 : ∀ k, (k ∈ y0.1.weights Tryd.prog 39 ∨ k ∈ y1.1.weights Tryd.prog 40) → k ≤ reachBytes := fun k hk => hwt k (by
    simp only [DataW.weights, Tryd.underlying42, DataW.weightsEach, List.map_cons, List.map_nil, List.mem_append]
    rcases hk with hk | hk
    · exact .inl hk
    · exact .inr (.inl hk))
  obtain ⟨A, l, c, rfl, hc, hC, hr, hl⟩ := open_rules reachBytes hx0 (fun k hk => hw2 k (.inl hk))
  obtain ⟨B, L, d, rfl, hd, hD, hn, hL⟩ := open_texts reachBytes hx1 (fun k hk => hw2 k (.inr hk))
  have hbig : 2 * reachBytes ≤ big := by have := reachBytes_lt; unfold big; omega
  have walk := mapped_walk reachBytes hbig l L A c B d W (Lib.hid hT) hC hc hr hD hd hn (by omega) (by omega)
  refine walk.mono fun e W' ⟨he, bel⟩ => ?_
  subst he
  exact ⟨_, rfl, fin W' bel⟩

theorem witness_row (os : Os) {H : Type} (enc : TypeId × Value → H) :
    (OpenSpec.ofChange Rows.refsMappedSpec).preRow enc Tryd.prog Tryd.f5 Rows.refsMappedRow.domain false Rows.refsMappedRow.laid ((laidWorld os).forCall (fun _ _ => 0) ⟨#[], #[.agg #[.slice none 0 0, .slice none 0 0]], []⟩).memory #[.agg #[.slice none 0 0, .slice none 0 0]] := by
  have hw : (DataW.whole enc Tryd.prog ((laidWorld os).forCall (fun _ _ => 0) ⟨#[], #[.agg #[.slice none 0 0, .slice none 0 0]], []⟩).memory Tryd.f5.params.toList Rows.refsMappedSpec.vars false #[Value.agg #[.slice none 0 0, .slice none 0 0]].toList 8).map (fun x => (x.1, x.2.1)) =
      some ([.agg [.nil, .nil]], []) := by kernel_rfl
  obtain ⟨⟨x1, x2, x3⟩, hx, hx1⟩ := Option.map_eq_some_iff.1 hw
  simp only [Prod.mk.injEq] at hx1
  obtain ⟨rfl, rfl⟩ := hx1
  exact OpenSpec.preRow_of_cond 8 hx (by kernel_rfl) (fun k hk => by cases hk) (by kernel_rfl) (laid_met os _)

set_option maxRecDepth 100000 in
set_option maxHeartbeats 2000000 in
theorem lifted (os : Os) (started : os.Started) (H : Type) (enc : TypeId × Value → H) (F : Stop.Interp) :
    ReturnsInHanded {} Tryd.checked os 5 .any ((OpenSpec.ofChange Rows.refsMappedSpec).preRow enc Tryd.prog Tryd.f5 Rows.refsMappedRow.domain false Rows.refsMappedRow.laid) (((OpenSpec.ofChange Rows.refsMappedSpec).at F).post enc Tryd.prog Tryd.f5 false true false false) := by
  refine returnsInHanded_of_row (C := Tryd.checked) (s := OpenSpec.ofChange Rows.refsMappedSpec) own started (by kernel_rfl) Tryd.func5
    (witness_row_atRef (enc := enc) (C := Tryd.checked) false (laidWorld os) #[.agg #[.slice none 0 0, .slice none 0 0]] rfl (by kernel_rfl) (by kernel_rfl) (by kernel_rfl) (witness_row os enc)) ?_
  intro W base args ds gs before hval hW _ _ hz hL _ _
  exact contract H enc W base args ds gs before hval hW hz (tabs_of_laid hL)

theorem said : Rows.RefsMappedSaid :=
  OpenClaim.holds_of_cond 5 Tryd.f5 rfl rfl rfl rfl rfl rfl rfl ⟨rfl, rfl, rfl, rfl, rfl⟩ rfl rfl rfl rfl rfl (by kernel_rfl) Tryd.func5 (by kernel_rfl)
    (of_decide_eq_true (by kernel_rfl)) (by unfold Func.isWrapper; first | (rw [if_pos (by decide +kernel)]; kernel_rfl) | (rw [if_neg (by decide +kernel)]; exact ⟨rfl, rfl⟩))
    (fun os started H enc _ F => by rw [OpenClaim.pre_eq_preRow]; exact lifted os started H enc F)

theorem plain (f : FuncId) (fn : Func) (hf : Tryd.pinned.checked.prog.funcNamed "satchel/satchellaw14.RefsMapped" = some f) (hfn : Tryd.pinned.checked.prog.funcs[f]? = some fn) :
    true = Tryd.pinned.checked.prog.looks [] ∧ ∀ (j : Nat) t, fn.params[j]? = some t → Tryd.pinned.checked.prog.wantsStandIn t = false := by
  obtain rfl : f = 5 := Option.some.inj ((show Tryd.prog.funcNamed "satchel/satchellaw14.RefsMapped" = some 5 by kernel_rfl).symm.trans hf) |>.symm
  obtain rfl : fn = Tryd.f5 := (Option.some.inj (Tryd.func5.symm.trans hfn)).symm
  refine ⟨by kernel_rfl, fun j t ht => ?_⟩
  rw [Tryd.params5] at ht
  obtain rfl : t = 42 := by simpa using Array.mem_of_getElem? ht
  exact (show Tryd.prog.wantsStandIn 42 = false by kernel_rfl)
end Go.Proofs.YtnolfopgijgpcaaDoor.Rm
namespace Go.Proofs.YtnolfopgijgpcaaDoor
theorem refsMapped_card : Rows.RefsMappedCardSaid :=
  Claim7.holds_tied_plain_at .later [] _ _ _ _ Rm.said (fun _ h => by cases h) (by kernel_rfl) (fun _ h => by cases h) refsMapped_row_tie rfl ⟨rfl, rfl⟩ (by kernel_rfl) rfl Rm.plain (by kernel_rfl)
#print axioms refsMapped_card
end Go.Proofs.YtnolfopgijgpcaaDoor
