/- The walk of object's parse at any bytes. -/
import Derived.Test.YtfbkkcigkpffiaaDoorGj
namespace Go.Proofs.YtfbkkcigkpffiaaDoor.St
open Go Go.Lib Go.RowKit Go.ChangeMaps Go.Proofs.YtfbkkcigkpffiaaDoorW.PrintWords Go.Proofs.YtfbkkcigkpffiaaDoorW.PrintLast Go.Proofs.YtfbkkcigkpffiaaDoorW.PrintMore Go.Proofs.YtfbkkcigkpffiaaDoor.PStoreMany
set_option linter.unusedVariables false
set_option linter.unusedSimpArgs false
inductive Th where
  | blob (l : List Int)
  | tree (es : List Ent)
  | com (v : ComV)
  | tag (v : TagV)
def Th.kind : Th → Int
  | .blob _ => 1
  | .tree _ => 2
  | .com _ => 3
  | .tag _ => 4
def Th.Ok (tb : Tb) : Th → Prop
  | .blob _ => True
  | .tree es => TreeOk tb es
  | .com v => ComOk tb v
  | .tag v => TagOk tb v
/-- What is read. -/
def rdo (b : List Int) : Option (Th × Rs) :=
  let u := u8r b ⟨0, 0⟩
  if u.1 = 1 then some (.blob (nx b u.2 (b.length - u.2.p)).1, (nx b u.2 (b.length - u.2.p)).2)
  else if u.1 = 2 then some (.tree (treer b u.2).1, (treer b u.2).2)
  else if u.1 = 3 then some (.com (comr b u.2).1, (comr b u.2).2)
  else if u.1 = 4 then some (.tag (tagr b u.2).1, (tagr b u.2).2)
  else none
theorem rdo_eq {b : List Int} {x : Int} {s1 : Rs} (hx : (u8r b ⟨0, 0⟩).1 = x) (hs : (u8r b ⟨0, 0⟩).2 = s1) : rdo b =
    if x = 1 then some (.blob (nx b s1 (b.length - s1.p)).1, (nx b s1 (b.length - s1.p)).2)
    else if x = 2 then some (.tree (treer b s1).1, (treer b s1).2)
    else if x = 3 then some (.com (comr b s1).1, (comr b s1).2)
    else if x = 4 then some (.tag (tagr b s1).1, (tagr b s1).2)
    else none := by
  unfold rdo
  simp only [hx, hs]
open Classical in
/-- Parse's error. -/
noncomputable def pe (tb : Tb) (b : List Int) : Int :=
  if 65536 < b.length then 31 else
  match rdo b with
  | none => 30
  | some (t, s) => if (s.m = 0 ∧ ¬ s.p < b.length) ∧ t.Ok tb then 0 else 37
/-- A thing as its value. -/
def ThAt (w : World) (v : Value) : Th → Prop
  | .blob l => ∃ A c, v = .iface 104 (.slice A l.length c) ∧ l.length ≤ c ∧ Kd.C kB w A l.length l
  | .tree es => ∃ A c, v = .iface 115 (.slice A es.length c) ∧ es.length ≤ c ∧ Kd.C kE w A es.length es
  | .com x => ∃ A c, v = .iface 116 (.agg (comC x.id (.slice A x.ps.length c) x.who x.tm x.tx).toArray) ∧ x.id.length = 32 ∧ x.ps.length ≤ c ∧ Kd.C kI w A x.ps.length x.ps
  | .tag x => v = .iface 117 (.agg x.cells.toArray) ∧ x.id.length = 32
theorem ThAt.below {w w' : World} {v : Value} {t : Th} (h : ThAt w v t) (hb : Below w.heap.size w w') : ThAt w' v t := by
  cases t with
  | blob l =>
    obtain ⟨A, c, h1, h2, h3⟩ := h
    exact ⟨A, c, h1, h2, Kd.C_below h3 hb⟩
  | tree es =>
    obtain ⟨A, c, h1, h2, h3⟩ := h
    exact ⟨A, c, h1, h2, Kd.C_below h3 hb⟩
  | com x =>
    obtain ⟨A, c, h1, h2, h3, h4⟩ := h
    exact ⟨A, c, h1, h2, h3, Kd.C_below h4 hb⟩
  | tag x => exact h
theorem check_tree (A : Option Addr) (n c : Nat) (w : World) : (method 279 115 (.slice A n c) "satchel/object.check").run Tryd.prog w = .ok (105, .slice A n c) w := by kernel_rfl
theorem check_com (cs : Array Value) (w : World) : (method 279 116 (.agg cs) "satchel/object.check").run Tryd.prog w = .ok (114, .agg cs) w := by kernel_rfl
theorem check_tag (cs : Array Value) (w : World) : (method 279 117 (.agg cs) "satchel/object.check").run Tryd.prog w = .ok (120, .agg cs) w := by kernel_rfl
theorem prl_32 (b : List Int) : ∀ n s, ∀ x ∈ (prl b n s).1, x.length = 32
  | 0, _, x, hx => by cases hx
  | n + 1, s, x, hx => by
    unfold prl at hx
    split at hx
    · cases hx
    · rcases List.mem_cons.1 hx with rfl | hx
      · exact idv_len _
      · exact prl_32 b n _ x hx
theorem byr_len (b : List Int) (s : Rs) (M : Nat) : (byr b s M).1.length ≤ M := by
  unfold byr
  have h1 := @nx_len b (mid b s (vr b s M)) (vr b s M).1.toNat
  have h2 := vr_range (b := b) (s := s) (most := (M : Int)) (by omega)
  omega
theorem trl_nm (b : List Int) : ∀ n s, ∀ x ∈ (trl b n s).1, x.nm.length ≤ 255
  | 0, _, x, hx => by cases hx
  | n + 1, s, x, hx => by
    unfold trl at hx
    split at hx
    · cases hx
    · rcases List.mem_cons.1 hx with rfl | hx
      · exact byr_len _ _ _
      · exact trl_nm b n _ x hx
/-- What parse answers. -/
def Parsed (tb : Tb) (b : List Int) (w : World) (e : Ending) (w' : World) : Prop :=
  ∃ v, e = .returned (.tuple #[v, .int .i64 (pe tb b)]) ∧ Below w.heap.size w w' ∧ (pe tb b ≠ 0 → v = .nilIface) ∧ (pe tb b = 0 → ∃ t s, rdo b = some (t, s) ∧ ThAt w' v t)
theorem Parsed.bad {tb : Tb} {b : List Int} {w w' : World} {n : Int} (h : pe tb b = n) (hn : n ≠ 0) (hb : Below w.heap.size w w') : Parsed tb b w (.returned (.tuple #[.nilIface, .int .i64 n])) w' :=
  ⟨.nilIface, by rw [h], hb, fun _ => rfl, fun h0 => absurd (h.symm.trans h0) hn⟩
theorem Parsed.good {tb : Tb} {b : List Int} {w w' : World} {v : Value} {t : Th} {s : Rs} (h : pe tb b = 0) (hr : rdo b = some (t, s)) (ha : ThAt w' v t) (hb : Below w.heap.size w w') : Parsed tb b w (.returned (.tuple #[v, .int .i64 0])) w' :=
  ⟨v, by rw [h], hb, fun h0 => absurd h h0, fun _ => ⟨t, s, hr, ha⟩⟩
theorem pe_long {tb : Tb} {b : List Int} (h : 65536 < b.length) : pe tb b = 31 := by unfold pe; rw [if_pos h]
theorem pe_none {tb : Tb} {b : List Int} (h : ¬ 65536 < b.length) (hr : rdo b = none) : pe tb b = 30 := by unfold pe; rw [if_neg h, hr]
theorem pe_bad {tb : Tb} {b : List Int} {t : Th} {s : Rs} (h : ¬ 65536 < b.length) (hr : rdo b = some (t, s)) (hn : ¬ ((s.m = 0 ∧ ¬ s.p < b.length) ∧ t.Ok tb)) : pe tb b = 37 := by unfold pe; rw [if_neg h, hr]; simp only; rw [if_neg hn]
theorem pe_good {tb : Tb} {b : List Int} {t : Th} {s : Rs} (h : ¬ 65536 < b.length) (hr : rdo b = some (t, s)) (hn : (s.m = 0 ∧ ¬ s.p < b.length) ∧ t.Ok tb) : pe tb b = 0 := by unfold pe; rw [if_neg h, hr]; simp only; rw [if_pos hn]
theorem endr_zero {er : Nat → Int} (h0 : ∀ m, er m = 0 ↔ m = 0) (b : List Int) (s : Rs) : endr er b s = 0 ↔ (s.m = 0 ∧ ¬ s.p < b.length) := by
  unfold endr
  by_cases h : s.m = 0 ∧ s.p < b.length
  · rw [if_pos h]
    exact ⟨fun h1 => absurd h1 (by decide), fun h1 => absurd h.2 h1.2⟩
  · rw [if_neg h, h0]
    exact ⟨fun h1 => ⟨h1, fun h2 => h ⟨h1, h2⟩⟩, fun h1 => h1.1⟩
set_option maxRecDepth 100000 in
set_option maxHeartbeats 8000000 in
theorem parse_any (tb : Tb) (er : Nat → Int) (h0 : ∀ m, er m = 0 ↔ m = 0) (b : List Int) (A : Option Addr) (c : Nat) (w : World) (hT : U8T tb w) (he : Ers er w) (hC : Kd.C kB w A b.length b) (hc : b.length ≤ c) (hl : b.length ≤ 140737488355328) (hby : ∀ y ∈ b, Byte y) :
    Calls Tryd.prog 41 #[.slice A b.length c] w (Parsed tb b w) := by
  have HT := Lib.hid hT
  have HE := Lib.hid he
  have HER := Lib.hid h0
  have HBY := Lib.hid hby
  have HCC := Lib.hid hC
  have HKC := Lib.hid hc
  obtain ⟨N, hN⟩ : ∃ N, b.length = N := ⟨_, rfl⟩
  have HN := Lib.hid hN
  rw [hN] at hl ⊢
  have H3 := Lib.hid (show 3 < w.heap.size from by
    have h1 := World.block_lt_of_cell? w _ (he 0 (by decide))
    simpa using h1)
  clear hT he h0 hby hC hc hN
  by_cases hlong : 65536 < N
  · have hlong' : (65536 : Int) < (N : Int) := by omega
    have HP := Lib.hid (pe_long (tb := tb) (b := b) (by rw [HN.out]; exact hlong))
    go_enter Tryd.func41, Tryd.ntmps41
    go_wp2_with fail
    go_ret2
    exact Parsed.bad HP.out (by decide) (Below.refl _ _)
  have hlong' : ¬ (65536 : Int) < (N : Int) := by omega
  have HLG := Lib.hid (show ¬ 65536 < b.length from by rw [HN.out]; exact hlong)
  have HLB := Lib.hid (show b.length ≤ 1000000000 from by rw [HN.out]; omega)
  have HRD := Lib.hid (show Calls Tryd.prog 49 #[.slice A N c] w fun e w' => ∃ k A' c', e = .returned (.pointer (some ⟨k, 0, none⟩)) ∧ w.heap.size ≤ k ∧ RdAt w' k A' c' b 0 0 ∧ Below w.heap.size w w' from HN.out ▸ read_walk b A c w HCC.out HKC.out HLB.out)
  clear HCC HKC
  have hxr := u8r_range b ⟨0, 0⟩
  obtain ⟨x, hx⟩ : ∃ x, (u8r b ⟨0, 0⟩).1 = x := ⟨_, rfl⟩
  obtain ⟨s1, hs1⟩ : ∃ s, (u8r b ⟨0, 0⟩).2 = s := ⟨_, rfl⟩
  have HRO := Lib.hid (rdo_eq hx hs1)
  have HU := Lib.hid (fun W k A' c' (hr : RdS W k A' c' b ⟨0, 0⟩) => u8_any k A' c' b ⟨0, 0⟩ W hr HLB.out)
  rw [hx, hs1] at HU
  rw [hx] at hxr
  have hx0 := hxr.1
  have hx1 := hxr.2
  clear hx hs1 hxr hlong
  by_cases hk : x = 1 ∨ x = 2 ∨ x = 3 ∨ x = 4
  case neg =>
    have e1 : (x == 1) = false := by simp; omega
    have e2 : (x == 2) = false := by simp; omega
    have e3 : (x == 3) = false := by simp; omega
    have e4 : (x == 4) = false := by simp; omega
    have HP := Lib.hid (pe_none (tb := tb) (b := b) HLG.out (by rw [HRO.out, if_neg (by omega), if_neg (by omega), if_neg (by omega), if_neg (by omega)]))
    clear hk
    go_enter Tryd.func41, Tryd.ntmps41
    go_wp2_with fail
    refine HRD.out.mono ?_
    rintro e w1 ⟨k, A1, c1, rfl, hk, hr, hb⟩
    have HK := Lib.hid hk
    have HB1 := Lib.hid hb
    have HR1 := Lib.hid (show RdS w1 k A1 c1 b ⟨0, 0⟩ from ⟨hr, Nat.zero_le _, (by decide : (0 : Nat) < 5)⟩)
    clear hk hr hb
    go_wp2_with fail
    refine (HU.out w1 k A1 c1 HR1.out).mono ?_
    rintro e w2 ⟨rfl, hr, hb⟩
    have HR2 := Lib.hid hr
    have HB2 := Lib.hid (show Below w.heap.size w w2 from HB1.out.trans (hb.below_of HK.out HB1.out.size))
    have HK3 := Lib.hid (show 3 < k from Nat.lt_of_lt_of_le H3.out HK.out)
    clear hr hb
    go_wp2_with fail
    go_ret2
    exact Parsed.bad HP.out (by decide) HB2.out
  rcases hk with hx | hx | hx | hx
  · have e1 : (x == 1) = true := by simp; omega
    have HROX := Lib.hid (show rdo b = some (.blob (nx b s1 (b.length - s1.p)).1, (nx b s1 (b.length - s1.p)).2) from by rw [HRO.out, if_pos hx])
    obtain ⟨d, hd⟩ : ∃ d, b.length - s1.p = d := ⟨_, rfl⟩
    have HD := Lib.hid hd
    have hdl : d ≤ 1000000000 := by have := HLB.out; omega
    rw [hd] at HROX
    obtain ⟨l, hle⟩ : ∃ l, (nx b s1 d).1 = l := ⟨_, rfl⟩
    obtain ⟨sx, hsx⟩ : ∃ s, (nx b s1 d).2 = s := ⟨_, rfl⟩
    have HRW := Lib.hid (fun W k A' c' (hr : RdS W k A' c' b s1) => raw_any k A' c' b s1 d W hr HLB.out hdl)
    have HLL := Lib.hid (show l.length ≤ 1000000000 from by have := @nx_len b s1 d; rw [hle] at this; omega)
    rw [hle, hsx] at HROX HRW
    clear hle hsx hd hx
    go_enter Tryd.func41, Tryd.ntmps41
    go_wp2_with fail
    refine HRD.out.mono ?_
    rintro e w1 ⟨k, A1, c1, rfl, hk, hr, hb⟩
    have HK := Lib.hid hk
    have HB1 := Lib.hid hb
    have HR1 := Lib.hid (show RdS w1 k A1 c1 b ⟨0, 0⟩ from ⟨hr, Nat.zero_le _, (by decide : (0 : Nat) < 5)⟩)
    clear hk hr hb
    go_wp2_with fail
    refine (HU.out w1 k A1 c1 HR1.out).mono ?_
    rintro e w2 ⟨rfl, hr, hb⟩
    have HR2 := Lib.hid hr
    have HB2 := Lib.hid (show Below w.heap.size w w2 from HB1.out.trans (hb.below_of HK.out HB1.out.size))
    have HK3 := Lib.hid (show 3 < k from Nat.lt_of_lt_of_le H3.out HK.out)
    clear hr hb
    have HLF := Lib.hid (left_walk k A1 c1 b s1.p s1.m w2 HR2.out.at_ HR2.out.le)
    rw [HD.out] at HLF
    go_wp2_with fail
    refine HLF.out.mono ?_
    rintro e w3 ⟨rfl, hb⟩
    have HR3 := Lib.hid (HR2.out.below hb)
    have HB3 := Lib.hid (HB2.out.trans (hb.mono HB2.out.size))
    clear hb
    go_wp2_with fail
    refine (HRW.out w3 k A1 c1 HR3.out).mono ?_
    rintro e w5 ⟨g, rfl, hg, hbk, hr, hb⟩
    have HR5 := Lib.hid hr
    have HB5 := Lib.hid (show Below w.heap.size w w5 from HB3.out.trans (hb.below_of HK.out HB3.out.size))
    have HTH := Lib.hid (show ThAt w5 (.iface 104 (.slice (some ⟨g, 0, none⟩) l.length l.length)) (.blob l) from ⟨_, _, rfl, Nat.le_refl _, (Src.of_blk (k := g + 1) hbk (by omega) (by have := HLL.out; omega)).C⟩)
    clear hg hbk hr hb HRW HLF
    have HEN := Lib.hid (end_any er k A1 c1 b sx w5 HR5.out (HE.out.below HB5.out) HLB.out)
    have HEZ := Lib.hid (endr_zero HER.out b sx)
    obtain ⟨en, hen⟩ : ∃ en, endr er b sx = en := ⟨_, rfl⟩
    rw [hen] at HEN HEZ
    clear hen
    by_cases hz : en = 0
    case neg =>
      have z1 : (en != 0) = true := by simpa using hz
      have z2 : (en == 0) = false := by simpa using hz
      have HP := Lib.hid (pe_bad (tb := tb) HLG.out HROX.out (fun h => hz (HEZ.out.2 h.1)))
      clear hz
      go_wp2_with fail
      refine HEN.out.mono ?_
      rintro e w6 ⟨rfl, hb⟩
      have HB6 := Lib.hid (HB5.out.trans (hb.mono HB5.out.size))
      clear hb
      go_wp2_with fail
      go_ret2
      exact Parsed.bad HP.out (by decide) HB6.out
    have HEE := Lib.hid (HEZ.out.1 hz)
    subst hz
    go_wp2_with fail
    refine HEN.out.mono ?_
    rintro e w6 ⟨rfl, hb⟩
    have HB6 := Lib.hid (HB5.out.trans (hb.mono HB5.out.size))
    have HTH6 := Lib.hid (HTH.out.below hb)
    have HB56x := Lib.hid hb
    clear hb
    have hm := fun W => check_blob (some ⟨g, 0, none⟩) l.length l.length W
    have HP := Lib.hid (pe_good (tb := tb) HLG.out HROX.out ⟨HEE.out, trivial⟩)
    go_wp2_with (go_at_call 102; refine (blobcheck_walk _ _).mono ?_; rintro e w7 ⟨rfl, rfl⟩)
    go_ret2
    exact Parsed.good HP.out HROX.out HTH6.out HB6.out
  · have e1 : (x == 1) = false := by simp; omega
    have e2 : (x == 2) = true := by simp; omega
    have HROX := Lib.hid (show rdo b = some (.tree (treer b s1).1, (treer b s1).2) from by rw [HRO.out, if_neg (by omega), if_pos hx])
    have HTR := Lib.hid (fun W k A' c' (hk3 : 3 < k) (he : Ers er W) (hr : RdS W k A' c' b s1) => tree_any er HER.out k hk3 A' c' b s1 W he hr HLB.out HBY.out)
    have HNM := Lib.hid (show ∀ x ∈ (treer b s1).1, x.nm.length ≤ 255 from fun x hx => trl_nm b _ _ x hx)
    obtain ⟨l, hle⟩ : ∃ l, (treer b s1).1 = l := ⟨_, rfl⟩
    obtain ⟨sx, hsx⟩ : ∃ s, (treer b s1).2 = s := ⟨_, rfl⟩
    rw [hle, hsx] at HROX HTR
    rw [hle] at HNM
    clear hle hsx hx
    go_enter Tryd.func41, Tryd.ntmps41
    go_wp2_with fail
    refine HRD.out.mono ?_
    rintro e w1 ⟨k, A1, c1, rfl, hk, hr, hb⟩
    have HK := Lib.hid hk
    have HB1 := Lib.hid hb
    have HR1 := Lib.hid (show RdS w1 k A1 c1 b ⟨0, 0⟩ from ⟨hr, Nat.zero_le _, (by decide : (0 : Nat) < 5)⟩)
    clear hk hr hb
    go_wp2_with fail
    refine (HU.out w1 k A1 c1 HR1.out).mono ?_
    rintro e w2 ⟨rfl, hr, hb⟩
    have HR2 := Lib.hid hr
    have HB2 := Lib.hid (show Below w.heap.size w w2 from HB1.out.trans (hb.below_of HK.out HB1.out.size))
    have HK3 := Lib.hid (show 3 < k from Nat.lt_of_lt_of_le H3.out HK.out)
    clear hr hb
    go_wp2_with fail
    refine (HTR.out w2 k A1 c1 HK3.out (HE.out.below HB2.out) HR2.out).mono ?_
    rintro e w5 ⟨A5, c5, rfl, hc5, hC5, hr, hb⟩
    have HR5 := Lib.hid hr
    have HC5 := Lib.hid hC5
    have HB5 := Lib.hid (show Below w.heap.size w w5 from HB2.out.trans (hb.below_of HK.out HB2.out.size))
    have HTH := Lib.hid (show ThAt w5 (.iface 115 (.slice A5 l.length c5)) (.tree l) from ⟨_, _, rfl, hc5, hC5⟩)
    clear hr hb hc5 hC5 HTR
    have HEN := Lib.hid (end_any er k A1 c1 b sx w5 HR5.out (HE.out.below HB5.out) HLB.out)
    have HEZ := Lib.hid (endr_zero HER.out b sx)
    obtain ⟨en, hen⟩ : ∃ en, endr er b sx = en := ⟨_, rfl⟩
    rw [hen] at HEN HEZ
    clear hen
    by_cases hz : en = 0
    case neg =>
      have z1 : (en != 0) = true := by simpa using hz
      have z2 : (en == 0) = false := by simpa using hz
      have HP := Lib.hid (pe_bad (tb := tb) HLG.out HROX.out (fun h => hz (HEZ.out.2 h.1)))
      clear hz
      go_wp2_with fail
      refine HEN.out.mono ?_
      rintro e w6 ⟨rfl, hb⟩
      have HB6 := Lib.hid (HB5.out.trans (hb.mono HB5.out.size))
      clear hb
      go_wp2_with fail
      go_ret2
      exact Parsed.bad HP.out (by decide) HB6.out
    have HEE := Lib.hid (HEZ.out.1 hz)
    subst hz
    go_wp2_with fail
    refine HEN.out.mono ?_
    rintro e w6 ⟨rfl, hb⟩
    have HB6 := Lib.hid (HB5.out.trans (hb.mono HB5.out.size))
    have HTH6 := Lib.hid (HTH.out.below hb)
    have HB56x := Lib.hid hb
    clear hb
    have hm := fun W => check_tree A5 l.length c5 W
    have HB56 := HB56x
    have HCK := Lib.hid (treecheck_walk tb l A5 c5 (fun x hx => Nat.le_trans (HNM.out x hx) (by decide)) w6 (HT.out.below HB6.out) (Kd.C_below HC5.out (HB56.out)))
    go_wp2_with fail
    refine HCK.out.mono ?_
    rintro e w7 ⟨cx, rfl, hcx, hb⟩
    have HB7 := Lib.hid (HB6.out.trans (hb.mono HB6.out.size))
    have HTH7 := Lib.hid (HTH6.out.below hb)
    have HCX := Lib.hid hcx
    clear hb hcx
    by_cases hz : cx = 0
    case neg =>
      have z1 : (cx != 0) = true := by simpa using hz
      have z2 : (cx == 0) = false := by simpa using hz
      have HP := Lib.hid (pe_bad (tb := tb) HLG.out HROX.out (fun h => hz (HCX.out.2 h.2)))
      clear hz hm
      go_wp2_with fail
      go_ret2
      exact Parsed.bad HP.out (by decide) HB7.out
    have HP := Lib.hid (pe_good (tb := tb) HLG.out HROX.out ⟨HEE.out, HCX.out.1 hz⟩)
    subst hz
    clear hm
    go_wp2_with fail
    go_ret2
    exact Parsed.good HP.out HROX.out HTH7.out HB7.out
  · have e1 : (x == 1) = false := by simp; omega
    have e2 : (x == 2) = false := by simp; omega
    have e3 : (x == 3) = true := by simp; omega
    have HROX := Lib.hid (show rdo b = some (.com (comr b s1).1, (comr b s1).2) from by rw [HRO.out, if_neg (by omega), if_neg (by omega), if_pos hx])
    have HTR := Lib.hid (fun W k A' c' (hk3 : 3 < k) (he : Ers er W) (hr : RdS W k A' c' b s1) => com_any er HER.out k hk3 A' c' b s1 W he hr HLB.out HBY.out)
    have HP32 := Lib.hid (show ∀ x ∈ (comr b s1).1.ps, x.length = 32 from prl_32 b _ _)
    have HID := Lib.hid (show (comr b s1).1.id.length = 32 from idv_len _)
    have HWL := Lib.hid (show (comr b s1).1.who.length ≤ 255 from byr_len b _ 255)
    obtain ⟨l, hle⟩ : ∃ l, (comr b s1).1 = l := ⟨_, rfl⟩
    obtain ⟨sx, hsx⟩ : ∃ s, (comr b s1).2 = s := ⟨_, rfl⟩
    rw [hle, hsx] at HROX HTR
    rw [hle] at HP32 HID HWL
    clear hle hsx hx
    go_enter Tryd.func41, Tryd.ntmps41
    go_wp2_with fail
    refine HRD.out.mono ?_
    rintro e w1 ⟨k, A1, c1, rfl, hk, hr, hb⟩
    have HK := Lib.hid hk
    have HB1 := Lib.hid hb
    have HR1 := Lib.hid (show RdS w1 k A1 c1 b ⟨0, 0⟩ from ⟨hr, Nat.zero_le _, (by decide : (0 : Nat) < 5)⟩)
    clear hk hr hb
    go_wp2_with fail
    refine (HU.out w1 k A1 c1 HR1.out).mono ?_
    rintro e w2 ⟨rfl, hr, hb⟩
    have HR2 := Lib.hid hr
    have HB2 := Lib.hid (show Below w.heap.size w w2 from HB1.out.trans (hb.below_of HK.out HB1.out.size))
    have HK3 := Lib.hid (show 3 < k from Nat.lt_of_lt_of_le H3.out HK.out)
    clear hr hb
    go_wp2_with fail
    refine (HTR.out w2 k A1 c1 HK3.out (HE.out.below HB2.out) HR2.out).mono ?_
    rintro e w5 ⟨A5, c5, rfl, hc5, hC5, hr, hb⟩
    have HR5 := Lib.hid hr
    have HC5 := Lib.hid hC5
    have HCC5 := Lib.hid hc5
    have HB5 := Lib.hid (show Below w.heap.size w w5 from HB2.out.trans (hb.below_of HK.out HB2.out.size))
    have HTH := Lib.hid (show ThAt w5 (.iface 116 (.agg (comC l.id (.slice A5 l.ps.length c5) l.who l.tm l.tx).toArray)) (.com l) from ⟨_, _, rfl, HID.out, hc5, hC5⟩)
    clear hr hb hc5 hC5 HTR
    have HEN := Lib.hid (end_any er k A1 c1 b sx w5 HR5.out (HE.out.below HB5.out) HLB.out)
    have HEZ := Lib.hid (endr_zero HER.out b sx)
    obtain ⟨en, hen⟩ : ∃ en, endr er b sx = en := ⟨_, rfl⟩
    rw [hen] at HEN HEZ
    clear hen
    by_cases hz : en = 0
    case neg =>
      have z1 : (en != 0) = true := by simpa using hz
      have z2 : (en == 0) = false := by simpa using hz
      have HP := Lib.hid (pe_bad (tb := tb) HLG.out HROX.out (fun h => hz (HEZ.out.2 h.1)))
      clear hz
      go_wp2_with fail
      refine HEN.out.mono ?_
      rintro e w6 ⟨rfl, hb⟩
      have HB6 := Lib.hid (HB5.out.trans (hb.mono HB5.out.size))
      clear hb
      go_wp2_with fail
      go_ret2
      exact Parsed.bad HP.out (by decide) HB6.out
    have HEE := Lib.hid (HEZ.out.1 hz)
    subst hz
    go_wp2_with fail
    refine HEN.out.mono ?_
    rintro e w6 ⟨rfl, hb⟩
    have HB6 := Lib.hid (HB5.out.trans (hb.mono HB5.out.size))
    have HTH6 := Lib.hid (HTH.out.below hb)
    have HB56x := Lib.hid hb
    clear hb
    have hm := fun W => check_com (comC l.id (.slice A5 l.ps.length c5) l.who l.tm l.tx).toArray W
    have HB56 := HB56x
    have HCK := Lib.hid (comcheck_walk tb l A5 c5 HID.out HP32.out (Nat.le_trans HWL.out (by decide)) w6 (HT.out.below HB6.out) (Kd.C_below HC5.out (HB56.out)) HCC5.out)
    go_wp2_with fail
    refine HCK.out.mono ?_
    rintro e w7 ⟨cx, rfl, hcx, hb⟩
    have HB7 := Lib.hid (HB6.out.trans (hb.mono HB6.out.size))
    have HTH7 := Lib.hid (HTH6.out.below hb)
    have HCX := Lib.hid hcx
    clear hb hcx
    by_cases hz : cx = 0
    case neg =>
      have z1 : (cx != 0) = true := by simpa using hz
      have z2 : (cx == 0) = false := by simpa using hz
      have HP := Lib.hid (pe_bad (tb := tb) HLG.out HROX.out (fun h => hz (HCX.out.2 h.2)))
      clear hz hm
      go_wp2_with fail
      go_ret2
      exact Parsed.bad HP.out (by decide) HB7.out
    have HP := Lib.hid (pe_good (tb := tb) HLG.out HROX.out ⟨HEE.out, HCX.out.1 hz⟩)
    subst hz
    clear hm
    go_wp2_with fail
    go_ret2
    exact Parsed.good HP.out HROX.out HTH7.out HB7.out
  · have e1 : (x == 1) = false := by simp; omega
    have e2 : (x == 2) = false := by simp; omega
    have e3 : (x == 3) = false := by simp; omega
    have e4 : (x == 4) = true := by simp; omega
    have HROX := Lib.hid (show rdo b = some (.tag (tagr b s1).1, (tagr b s1).2) from by rw [HRO.out, if_neg (by omega), if_neg (by omega), if_neg (by omega), if_pos hx])
    have HTR := Lib.hid (fun W k A' c' (hr : RdS W k A' c' b s1) => tag_any k A' c' b s1 W hr HLB.out HBY.out)
    have HID := Lib.hid (show (tagr b s1).1.id.length = 32 from idv_len _)
    have HWL := Lib.hid (show (tagr b s1).1.who.length ≤ 255 from byr_len b _ 255)
    have HNL := Lib.hid (show (tagr b s1).1.nm.length ≤ 255 from byr_len b _ 255)
    obtain ⟨l, hle⟩ : ∃ l, (tagr b s1).1 = l := ⟨_, rfl⟩
    obtain ⟨sx, hsx⟩ : ∃ s, (tagr b s1).2 = s := ⟨_, rfl⟩
    rw [hle, hsx] at HROX HTR
    rw [hle] at HID HWL HNL
    clear hle hsx hx
    go_enter Tryd.func41, Tryd.ntmps41
    go_wp2_with fail
    refine HRD.out.mono ?_
    rintro e w1 ⟨k, A1, c1, rfl, hk, hr, hb⟩
    have HK := Lib.hid hk
    have HB1 := Lib.hid hb
    have HR1 := Lib.hid (show RdS w1 k A1 c1 b ⟨0, 0⟩ from ⟨hr, Nat.zero_le _, (by decide : (0 : Nat) < 5)⟩)
    clear hk hr hb
    go_wp2_with fail
    refine (HU.out w1 k A1 c1 HR1.out).mono ?_
    rintro e w2 ⟨rfl, hr, hb⟩
    have HR2 := Lib.hid hr
    have HB2 := Lib.hid (show Below w.heap.size w w2 from HB1.out.trans (hb.below_of HK.out HB1.out.size))
    have HK3 := Lib.hid (show 3 < k from Nat.lt_of_lt_of_le H3.out HK.out)
    clear hr hb
    go_wp2_with fail
    refine (HTR.out w2 k A1 c1 HR2.out).mono ?_
    rintro e w5 ⟨rfl, hr, hb⟩
    have HR5 := Lib.hid hr
    have HB5 := Lib.hid (show Below w.heap.size w w5 from HB2.out.trans (hb.below_of HK.out HB2.out.size))
    have HTH := Lib.hid (show ThAt w5 (.iface 117 (.agg l.cells.toArray)) (.tag l) from ⟨rfl, HID.out⟩)
    clear hr hb HTR
    have HEN := Lib.hid (end_any er k A1 c1 b sx w5 HR5.out (HE.out.below HB5.out) HLB.out)
    have HEZ := Lib.hid (endr_zero HER.out b sx)
    obtain ⟨en, hen⟩ : ∃ en, endr er b sx = en := ⟨_, rfl⟩
    rw [hen] at HEN HEZ
    clear hen
    by_cases hz : en = 0
    case neg =>
      have z1 : (en != 0) = true := by simpa using hz
      have z2 : (en == 0) = false := by simpa using hz
      have HP := Lib.hid (pe_bad (tb := tb) HLG.out HROX.out (fun h => hz (HEZ.out.2 h.1)))
      clear hz
      go_wp2_with fail
      refine HEN.out.mono ?_
      rintro e w6 ⟨rfl, hb⟩
      have HB6 := Lib.hid (HB5.out.trans (hb.mono HB5.out.size))
      clear hb
      go_wp2_with fail
      go_ret2
      exact Parsed.bad HP.out (by decide) HB6.out
    have HEE := Lib.hid (HEZ.out.1 hz)
    subst hz
    go_wp2_with fail
    refine HEN.out.mono ?_
    rintro e w6 ⟨rfl, hb⟩
    have HB6 := Lib.hid (HB5.out.trans (hb.mono HB5.out.size))
    have HTH6 := Lib.hid (HTH.out.below hb)
    have HB56x := Lib.hid hb
    clear hb
    have hm := fun W => check_tag l.cells.toArray W
    have HCK := Lib.hid (tagcheck_walk tb l HID.out (Nat.le_trans HNL.out (by decide)) (Nat.le_trans HWL.out (by decide)) w6 (HT.out.below HB6.out))
    go_wp2_with fail
    refine HCK.out.mono ?_
    rintro e w7 ⟨cx, rfl, hcx, hb⟩
    have HB7 := Lib.hid (HB6.out.trans (hb.mono HB6.out.size))
    have HTH7 := Lib.hid (HTH6.out.below hb)
    have HCX := Lib.hid hcx
    clear hb hcx
    by_cases hz : cx = 0
    case neg =>
      have z1 : (cx != 0) = true := by simpa using hz
      have z2 : (cx == 0) = false := by simpa using hz
      have HP := Lib.hid (pe_bad (tb := tb) HLG.out HROX.out (fun h => hz (HCX.out.2 h.2)))
      clear hz hm
      go_wp2_with fail
      go_ret2
      exact Parsed.bad HP.out (by decide) HB7.out
    have HP := Lib.hid (pe_good (tb := tb) HLG.out HROX.out ⟨HEE.out, HCX.out.1 hz⟩)
    subst hz
    clear hm
    go_wp2_with fail
    go_ret2
    exact Parsed.good HP.out HROX.out HTH7.out HB7.out
end Go.Proofs.YtfbkkcigkpffiaaDoor.St

namespace Go.Proofs.YtfbkkcigkpffiaaDoor.St
open Go Go.Lib Go.RowKit Go.ChangeMaps Go.Proofs.YtfbkkcigkpffiaaDoorW.PrintWords Go.Proofs.YtfbkkcigkpffiaaDoorW.PrintLast Go.Proofs.YtfbkkcigkpffiaaDoorW.PrintMore Go.Proofs.YtfbkkcigkpffiaaDoor.PStoreMany
set_option linter.unusedVariables false
set_option linter.unusedSimpArgs false
theorem sub_lit (m : Nat) (l : List Value) (z : Array Value) (hm : m + l.length ≤ z.size) : (l.zipIdx).foldl (fun cs x => cs.setIfInBounds (m + x.snd) x.fst) z = (z.toList.take m ++ l ++ z.toList.drop (m + l.length)).toArray := by
  have hp : (z.toList.take m).length = m := by rw [List.length_take, Array.length_toList]; omega
  have h := fill_pre l (z.toList.take m) z (by rw [hp]; exact hm) (by rw [hp])
  rw [fill_off]
  rw [hp] at h
  exact h
/-- An object as its 76 cells: its kind, and one part. -/
noncomputable def objZ (kd : Int) : List Value := Tryd.zeroCells80.toList.set 0 (.int .i64 kd)
noncomputable def objP (kd : Int) (m : Nat) (l : List Value) : List Value := (objZ kd).take m ++ l ++ (objZ kd).drop (m + l.length)
theorem objZ_len (kd : Int) : (objZ kd).length = 76 := by unfold objZ; rw [List.length_set, zero80]
theorem objZ_one (kd : Int) : ∀ u ∈ objZ kd, u.oneCell' = true := fun u hu => by
  unfold objZ at hu
  rcases List.mem_or_eq_of_mem_set hu with h | rfl
  · exact List.all_eq_true.1 zero80one u h
  · rfl
theorem objP_len {kd : Int} {m : Nat} {l : List Value} (h : m + l.length ≤ 76) : (objP kd m l).length = 76 := by
  unfold objP
  rw [List.length_append, List.length_append, List.length_take, List.length_drop, objZ_len]
  omega
theorem objP_one {kd : Int} {m : Nat} {l : List Value} (h : ∀ u ∈ l, u.oneCell' = true) : ∀ u ∈ objP kd m l, u.oneCell' = true := fun u hu => by
  unfold objP at hu
  rcases List.mem_append.1 hu with hu | hu
  · rcases List.mem_append.1 hu with hu | hu
    · exact objZ_one kd u (List.mem_of_mem_take hu)
    · exact h u hu
  · exact objZ_one kd u (List.mem_of_mem_drop hu)
theorem objP_kind {kd : Int} {m : Nat} {l : List Value} (h : 0 < m) (hm : m ≤ 76) : (objP kd m l)[0]? = some (.int .i64 kd) := by
  unfold objP
  rw [List.append_assoc, List.getElem?_append_left (by rw [List.length_take, objZ_len]; omega), List.getElem?_take, if_pos h]
  unfold objZ
  rw [List.getElem?_set_self (by rw [zero80]; decide)]
theorem zero80a : Tryd.zeroCells80.size = 76 := by kernel_rfl
theorem lit80 (kd : Int) (m : Nat) (l : List Value) (h : m + l.length ≤ 76) : Value.agg ((l.zipIdx).foldl (fun cs x => cs.setIfInBounds (m + x.snd) x.fst) (Tryd.zeroCells80.setIfInBounds 0 (.int .i64 kd))) = .agg (objP kd m l).toArray := by
  rw [sub_lit _ _ _ (by rw [Array.size_setIfInBounds, zero80a]; exact h), Array.toList_setIfInBounds]
  rfl
theorem set80 (kd : Int) (m : Nat) (v : Value) (h : m < 76) : Value.agg ((Tryd.zeroCells80.setIfInBounds 0 (.int .i64 kd)).setIfInBounds m v) = .agg (objP kd m [v]).toArray := by
  congr 1
  apply Array.ext'
  rw [Array.toList_setIfInBounds, Array.toList_setIfInBounds]
  show (objZ kd).set m v = objP kd m [v]
  unfold objP
  rw [List.set_eq_take_append_cons_drop, if_pos (by rw [objZ_len]; exact h)]
  simp
/-- What object tells. -/
def ObjAs (kd : Int) (w : World) (e : Ending) (w' : World) : Prop := ∃ cs : List Value, cs.length = 76 ∧ (∀ u ∈ cs, u.oneCell' = true) ∧ cs[0]? = some (.int .i64 kd) ∧ e = .returned (.agg cs.toArray) ∧ Below w.heap.size w w'
set_option maxRecDepth 100000 in
set_option maxHeartbeats 4000000 in
theorem object_tree (A : Option Addr) (n c : Nat) (w : World) : Calls Tryd.prog 45 #[.iface 115 (.slice A n c)] w (ObjAs 2 w) := by
  have ht1 : ∀ W, (Instr.typeAssert (.iface 115 (.slice A n c)) 88 104 true).run Tryd.prog W = .ok (.tuple #[.slice none 0 0, .bool false]) W := fun W => by kernel_rfl
  have ht2 : ∀ W, (Instr.typeAssert (.iface 115 (.slice A n c)) 88 115 true).run Tryd.prog W = .ok (.tuple #[.slice A n c, .bool true]) W := fun W => by kernel_rfl
  obtain ⟨w1, hw1⟩ : ∃ w1, w.alloc (.cells Tryd.zeroCells80 80) = w1 := ⟨_, rfl⟩
  have HW1 := Lib.hid hw1
  have HR := Lib.hid (show Blk w1 w.heap.size 80 Tryd.zeroCells80.toList from hw1 ▸ new80 w)
  have HB := Lib.hid (show Below w.heap.size w w1 from hw1 ▸ below_alloc (Below.refl _ _) _)
  obtain ⟨cs, hcs⟩ : ∃ cs, objP 2 2 [.slice A n c] = cs := ⟨_, rfl⟩
  have HL := Lib.hid (show cs.length = 76 from hcs ▸ objP_len (by simp))
  have HO := Lib.hid (show ∀ u ∈ cs, u.oneCell' = true from hcs ▸ objP_one (fun u hu => by rw [List.mem_singleton.1 hu]; rfl))
  have HK := Lib.hid (show cs[0]? = some (.int .i64 2) from hcs ▸ objP_kind (by decide) (by decide))
  have HLIT := Lib.hid (show Value.agg ((Tryd.zeroCells80.setIfInBounds 0 (.int .i64 2)).setIfInBounds 2 (.slice A n c)) = .agg cs.toArray from hcs ▸ set80 2 2 _ (by decide))
  have HTH := Lib.hid (HR.out.there 0 cs.toArray.size (by rw [List.size_toArray, HL.out, zero80]; decide))
  have HSZ := Lib.hid (show (Tryd.prog.info? 80).map (·.size) = some cs.toArray.size from by rw [List.size_toArray, HL.out]; exact size80)
  have HON := Lib.hid (all_oneCell_toArray HO.out)
  have HF := Lib.hid (ret80 cs HL.out HR.out HB.out (Nat.le_refl _))
  clear hw1 hcs
  go_enter Tryd.func45, Tryd.ntmps45
  go_upto_region 1 with (fail)
  rw [HW1.out]
  go_wp2_with (refine wpList_store_mid rfl 80 (.tmp 2) (.tmp 17) rfl w.heap.size 0 cs.toArray rfl HLIT.out HTH.out HSZ.out HON.out ?_)
  exact bodyPost_ret (v := .agg cs.toArray) (results_single rfl (.cell w.heap.size 80 cs.toArray (0, 0) _ rfl HF.out.1 Tryd.underlying80 rfl HSZ.out .nil)) rfl ⟨cs, HL.out, HO.out, HK.out, rfl, HF.out.2⟩
theorem fill_size' : ∀ (l : List Value) (n m : Nat) (z : Array Value), ((l.zipIdx n).foldl (fun cs x => cs.setIfInBounds (m + x.snd) x.fst) z).size = z.size
  | [], _, _, _ => rfl
  | x :: l, n, m, z => by
    rw [List.zipIdx_cons, List.foldl_cons, fill_size' l]
    simp
theorem put_all (w : World) (r t : Nat) (z cs : List Value) (h : Blk w r t z) (hl : z.length = cs.length) : Blk (w.setCells r 0 cs) r t cs := by
  have h9 := Blk.setCells cs 0 w _ h
  rwa [sets_all _ _ (by rw [hl])] at h9
set_option maxRecDepth 100000 in
set_option maxHeartbeats 4000000 in
theorem object_com (L : List Value) (hL : L.length = 36) (h1 : ∀ u ∈ L, u.oneCell' = true) (w : World) : Calls Tryd.prog 45 #[.iface 116 (.agg L.toArray)] w (ObjAs 3 w) := by
  have ht1 : ∀ W, (Instr.typeAssert (.iface 116 (.agg L.toArray)) 88 104 true).run Tryd.prog W = .ok (.tuple #[.slice none 0 0, .bool false]) W := fun W => by kernel_rfl
  have ht2 : ∀ W, (Instr.typeAssert (.iface 116 (.agg L.toArray)) 88 115 true).run Tryd.prog W = .ok (.tuple #[.slice none 0 0, .bool false]) W := fun W => by kernel_rfl
  have ht3 : ∀ W, (Instr.typeAssert (.iface 116 (.agg L.toArray)) 88 116 true).run Tryd.prog W = .ok (.tuple #[.agg L.toArray, .bool true]) W := fun W => by kernel_rfl
  obtain ⟨w1, hw1⟩ : ∃ w1, w.alloc (.cells Tryd.zeroCells80 80) = w1 := ⟨_, rfl⟩
  have HW1 := Lib.hid hw1
  have HR := Lib.hid (show Blk w1 w.heap.size 80 Tryd.zeroCells80.toList from hw1 ▸ new80 w)
  have HB := Lib.hid (show Below w.heap.size w w1 from hw1 ▸ below_alloc (Below.refl _ _) _)
  have HSW := Lib.hid (show w1.heap.size = w.heap.size + 1 from by rw [← hw1]; simp)
  obtain ⟨w2, hw2⟩ : ∃ w2, w1.alloc (.cells (comC zid nilV [] 0 []).toArray 116) = w2 := ⟨_, rfl⟩
  have HW2 := Lib.hid hw2
  obtain ⟨g, hg⟩ : ∃ g, w1.heap.size = g := ⟨_, rfl⟩
  have HG := Lib.hid hg
  have HI2 := Lib.hid (show Blk w2 g 116 (comC zid nilV [] 0 []) from hg ▸ hw2 ▸ Blk.new w1 116 _)
  have HB2 := Lib.hid (show Below w1.heap.size w1 w2 from hw2 ▸ below_alloc (Below.refl _ _) _)
  have HTH2 := Lib.hid (HI2.out.there 0 L.toArray.size (by rw [List.size_toArray, hL, comC_len (by decide)]; decide))
  have HSZ2 := Lib.hid (show (Tryd.prog.info? 116).map (·.size) = some L.toArray.size from by rw [List.size_toArray, hL]; exact size116)
  have HON2 := Lib.hid (all_oneCell_toArray h1)
  have HI3 := Lib.hid (put_all w2 g 116 _ L HI2.out (by rw [comC_len (by decide), hL]))
  have HB3 := Lib.hid (show Below w1.heap.size w1 (w2.setCells g 0 L) from (But.setCells (k := g) L 0 w2 (But.of_below HB2.out)).new (by rw [hg]; exact Nat.le_refl _))
  obtain ⟨w3, hw3⟩ : ∃ w3, w2.setCells g 0 L = w3 := ⟨_, rfl⟩
  have HW3 := Lib.hid hw3
  rw [hw3] at HI3 HB3
  have HLD := Lib.hid (HI3.out.loads 116 Tryd.isAgg116 (fun W => by rw [hL]; exact Tryd.sizeOf116 W))
  have HB13 := Lib.hid (HB.out.trans (HB3.out.mono HB.out.size))
  have HR3 := Lib.hid (HR.out.below HB3.out)
  obtain ⟨cs, hcs⟩ : ∃ cs, objP 3 3 L = cs := ⟨_, rfl⟩
  have HL := Lib.hid (show cs.length = 76 from hcs ▸ objP_len (by rw [hL]; decide))
  have HO := Lib.hid (show ∀ u ∈ cs, u.oneCell' = true from hcs ▸ objP_one h1)
  have HK := Lib.hid (show cs[0]? = some (.int .i64 3) from hcs ▸ objP_kind (by decide) (by decide))
  have HLIT := Lib.hid (show Value.agg ((L.zipIdx).foldl (fun cs x => cs.setIfInBounds (3 + x.snd) x.fst) (Tryd.zeroCells80.setIfInBounds 0 (.int .i64 3))) = .agg cs.toArray from hcs ▸ lit80 3 3 L (by rw [hL]; decide))
  have HTH := Lib.hid (HR3.out.there 0 cs.toArray.size (by rw [List.size_toArray, HL.out, zero80]; decide))
  have HSZ := Lib.hid (show (Tryd.prog.info? 80).map (·.size) = some cs.toArray.size from by rw [List.size_toArray, HL.out]; exact size80)
  have HON := Lib.hid (all_oneCell_toArray HO.out)
  have HF := Lib.hid (ret80 cs HL.out HR3.out HB13.out (Nat.le_refl _))
  have hfz := fun z n m => fill_size' L n m z
  have hll := hL
  clear hw1 hw2 hw3 hcs h1 hg hL
  go_enter Tryd.func45, Tryd.ntmps45
  go_upto_region 1 with (fail)
  rw [HW1.out]
  go_upto_region 10 with (first | ((change wpList _ _ _ _ _ (w1.alloc (.cells (comC zid nilV [] 0 []).toArray 116))); rw [HW2.out, HG.out]; refine wpList_store_mid rfl 116 (.tmp 5) (.tmp 20) rfl g 0 L.toArray rfl rfl HTH2.out HSZ2.out HON2.out ?_))
  change Code.wp _ _ _ _ (w2.setCells g 0 L)
  rw [HW3.out]
  try simp only [Act.put]
  go_wp2_with (first | (with_reducible refine wpList_ld rfl 116 (.tmp 5) rfl ⟨g, 0, none⟩ rfl _ HLD.out ?_) | (refine wpList_store_mid rfl 80 (.tmp 2) (.tmp 22) rfl w.heap.size 0 cs.toArray rfl HLIT.out HTH.out HSZ.out HON.out ?_))
  exact bodyPost_ret (v := .agg cs.toArray) (results_single rfl (.cell w.heap.size 80 cs.toArray (0, 0) _ rfl HF.out.1 Tryd.underlying80 rfl HSZ.out .nil)) rfl ⟨cs, HL.out, HO.out, HK.out, rfl, HF.out.2⟩
set_option maxRecDepth 100000 in
set_option maxHeartbeats 4000000 in
theorem object_tag (L : List Value) (hL : L.length = 37) (h1 : ∀ u ∈ L, u.oneCell' = true) (w : World) : Calls Tryd.prog 45 #[.iface 117 (.agg L.toArray)] w (ObjAs 4 w) := by
  have ht1 : ∀ W, (Instr.typeAssert (.iface 117 (.agg L.toArray)) 88 104 true).run Tryd.prog W = .ok (.tuple #[.slice none 0 0, .bool false]) W := fun W => by kernel_rfl
  have ht2 : ∀ W, (Instr.typeAssert (.iface 117 (.agg L.toArray)) 88 115 true).run Tryd.prog W = .ok (.tuple #[.slice none 0 0, .bool false]) W := fun W => by kernel_rfl
  have ht3 : ∀ W, (Instr.typeAssert (.iface 117 (.agg L.toArray)) 88 116 true).run Tryd.prog W = .ok (.tuple #[.agg (comC zid nilV [] 0 []).toArray, .bool false]) W := fun W => by kernel_rfl
  have ht4 : ∀ W, (Instr.typeAssert (.iface 117 (.agg L.toArray)) 88 117 true).run Tryd.prog W = .ok (.tuple #[.agg L.toArray, .bool true]) W := fun W => by kernel_rfl
  obtain ⟨w1, hw1⟩ : ∃ w1, w.alloc (.cells Tryd.zeroCells80 80) = w1 := ⟨_, rfl⟩
  have HW1 := Lib.hid hw1
  have HR := Lib.hid (show Blk w1 w.heap.size 80 Tryd.zeroCells80.toList from hw1 ▸ new80 w)
  have HB := Lib.hid (show Below w.heap.size w w1 from hw1 ▸ below_alloc (Below.refl _ _) _)
  have HSW := Lib.hid (show w1.heap.size = w.heap.size + 1 from by rw [← hw1]; simp)
  obtain ⟨w2, hw2⟩ : ∃ w2, w1.alloc (.cells (TagV.cells ⟨zid, 0, [], [], 0, []⟩).toArray 117) = w2 := ⟨_, rfl⟩
  have HW2 := Lib.hid hw2
  obtain ⟨g, hg⟩ : ∃ g, w1.heap.size = g := ⟨_, rfl⟩
  have HG := Lib.hid hg
  have HI2 := Lib.hid (show Blk w2 g 117 (TagV.cells ⟨zid, 0, [], [], 0, []⟩) from hg ▸ hw2 ▸ Blk.new w1 117 _)
  have HB2 := Lib.hid (show Below w1.heap.size w1 w2 from hw2 ▸ below_alloc (Below.refl _ _) _)
  have HTH2 := Lib.hid (HI2.out.there 0 L.toArray.size (by rw [List.size_toArray, hL, TagV.len (v := ⟨zid, 0, [], [], 0, []⟩) (by decide)]; decide))
  have HSZ2 := Lib.hid (show (Tryd.prog.info? 117).map (·.size) = some L.toArray.size from by rw [List.size_toArray, hL]; exact size117)
  have HON2 := Lib.hid (all_oneCell_toArray h1)
  have HI3 := Lib.hid (put_all w2 g 117 _ L HI2.out (by rw [TagV.len (v := ⟨zid, 0, [], [], 0, []⟩) (by decide), hL]))
  have HB3 := Lib.hid (show Below w1.heap.size w1 (w2.setCells g 0 L) from (But.setCells (k := g) L 0 w2 (But.of_below HB2.out)).new (by rw [hg]; exact Nat.le_refl _))
  obtain ⟨w3, hw3⟩ : ∃ w3, w2.setCells g 0 L = w3 := ⟨_, rfl⟩
  have HW3 := Lib.hid hw3
  rw [hw3] at HI3 HB3
  have HLD := Lib.hid (HI3.out.loads 117 Tryd.isAgg117 (fun W => by rw [hL]; exact Tryd.sizeOf117 W))
  have HB13 := Lib.hid (HB.out.trans (HB3.out.mono HB.out.size))
  have HR3 := Lib.hid (HR.out.below HB3.out)
  obtain ⟨cs, hcs⟩ : ∃ cs, objP 4 39 L = cs := ⟨_, rfl⟩
  have HL := Lib.hid (show cs.length = 76 from hcs ▸ objP_len (by rw [hL]; decide))
  have HO := Lib.hid (show ∀ u ∈ cs, u.oneCell' = true from hcs ▸ objP_one h1)
  have HK := Lib.hid (show cs[0]? = some (.int .i64 4) from hcs ▸ objP_kind (by decide) (by decide))
  have HLIT := Lib.hid (show Value.agg ((L.zipIdx).foldl (fun cs x => cs.setIfInBounds (39 + x.snd) x.fst) (Tryd.zeroCells80.setIfInBounds 0 (.int .i64 4))) = .agg cs.toArray from hcs ▸ lit80 4 39 L (by rw [hL]; decide))
  have HTH := Lib.hid (HR3.out.there 0 cs.toArray.size (by rw [List.size_toArray, HL.out, zero80]; decide))
  have HSZ := Lib.hid (show (Tryd.prog.info? 80).map (·.size) = some cs.toArray.size from by rw [List.size_toArray, HL.out]; exact size80)
  have HON := Lib.hid (all_oneCell_toArray HO.out)
  have HF := Lib.hid (ret80 cs HL.out HR3.out HB13.out (Nat.le_refl _))
  have hfz := fun z n m => fill_size' L n m z
  have hll := hL
  clear hw1 hw2 hw3 hcs h1 hg hL
  go_enter Tryd.func45, Tryd.ntmps45
  go_upto_region 1 with (fail)
  rw [HW1.out]
  go_upto_region 13 with (first | ((change wpList _ _ _ _ _ (w1.alloc (.cells (TagV.cells ⟨zid, 0, [], [], 0, []⟩).toArray 117))); rw [HW2.out, HG.out]; refine wpList_store_mid rfl 117 (.tmp 6) (.tmp 25) rfl g 0 L.toArray rfl rfl HTH2.out HSZ2.out HON2.out ?_))
  change Code.wp _ _ _ _ (w2.setCells g 0 L)
  rw [HW3.out]
  try simp only [Act.put]
  go_wp2_with (first | (with_reducible refine wpList_ld rfl 117 (.tmp 6) rfl ⟨g, 0, none⟩ rfl _ HLD.out ?_) | (refine wpList_store_mid rfl 80 (.tmp 2) (.tmp 27) rfl w.heap.size 0 cs.toArray rfl HLIT.out HTH.out HSZ.out HON.out ?_))
  exact bodyPost_ret (v := .agg cs.toArray) (results_single rfl (.cell w.heap.size 80 cs.toArray (0, 0) _ rfl HF.out.1 Tryd.underlying80 rfl HSZ.out .nil)) rfl ⟨cs, HL.out, HO.out, HK.out, rfl, HF.out.2⟩
/-- What Parse answers. -/
def ParsedO (tb : Tb) (b : List Int) (w : World) (e : Ending) (w' : World) : Prop :=
  ∃ cs : List Value, cs.length = 76 ∧ (∀ u ∈ cs, u.oneCell' = true) ∧ e = .returned (.tuple #[.agg cs.toArray, .int .i64 (pe tb b)]) ∧ Below w.heap.size w w' ∧ (pe tb b ≠ 0 → cs[0]? = some (.int .i64 0)) ∧ (pe tb b = 0 → ∃ t s, rdo b = some (t, s) ∧ cs[0]? = some (.int .i64 t.kind))
theorem object_any (w : World) (v : Value) (t : Th) (h : ThAt w v t) : Calls Tryd.prog 45 #[v] w (ObjAs t.kind w) := by
  cases t with
  | blob l =>
    obtain ⟨A, c, rfl, _, _⟩ := h
    refine (object_walk A l.length c w).mono ?_
    rintro e w' ⟨he, hb⟩
    exact ⟨_, objC_len _, objC_one _ rfl, by unfold objC; rw [List.getElem?_set_ne (by decide), List.getElem?_set_self (by rw [zero80]; decide)]; rfl, he, hb⟩
  | tree es =>
    obtain ⟨A, c, rfl, _, _⟩ := h
    exact object_tree A es.length c w
  | com x =>
    obtain ⟨A, c, rfl, hx, _, _⟩ := h
    exact object_com _ (comC_len hx _ _ _ _) (comC_one _ _ rfl _ _ _) w
  | tag x =>
    obtain ⟨rfl, hx⟩ := h
    exact object_tag _ (TagV.len hx) (TagV.one x) w
set_option maxRecDepth 100000 in
set_option maxHeartbeats 4000000 in
theorem Parse_any (tb : Tb) (er : Nat → Int) (h0 : ∀ m, er m = 0 ↔ m = 0) (b : List Int) (A : Option Addr) (c : Nat) (w : World) (hT : U8T tb w) (he : Ers er w) (hC : Kd.C kB w A b.length b) (hc : b.length ≤ c) (hl : b.length ≤ 140737488355328) (hby : ∀ y ∈ b, Byte y) :
    Calls Tryd.prog 33 #[.slice A b.length c] w (ParsedO tb b w) := by
  obtain ⟨w1, hw1⟩ : ∃ w1, w.alloc (.cells Tryd.zeroCells80 80) = w1 := ⟨_, rfl⟩
  have HW1 := Lib.hid hw1
  have HR := Lib.hid (show Blk w1 w.heap.size 80 Tryd.zeroCells80.toList from hw1 ▸ new80 w)
  have HB := Lib.hid (show Below w.heap.size w w1 from hw1 ▸ below_alloc (Below.refl _ _) _)
  have HPW := Lib.hid (parse_any tb er h0 b A c w1 (hT.below HB.out) (he.below HB.out) (Kd.C_below hC HB.out) hc hl hby)
  obtain ⟨N, hN⟩ : ∃ N, b.length = N := ⟨_, rfl⟩
  rw [hN] at HPW ⊢
  clear hw1 hT he hC hc hl hby hN
  go_enter Tryd.func33, Tryd.ntmps33
  go_upto_region 1 with (fail)
  rw [HW1.out]
  go_wp2_with fail
  refine HPW.out.mono ?_
  rintro e w2 ⟨v, rfl, hb, hn, hy⟩
  have HB2 := Lib.hid (HB.out.trans (hb.mono HB.out.size))
  have HR2 := Lib.hid (HR.out.below hb)
  have HN := Lib.hid hn
  have HY := Lib.hid hy
  clear hb hn hy
  obtain ⟨x, hx⟩ : ∃ x, pe tb b = x := ⟨_, rfl⟩
  have HX := Lib.hid hx
  rw [hx] at HN HY
  simp only [hx]
  clear hx
  by_cases hz : x = 0
  · obtain ⟨t, s, hr, ha⟩ := HY.out hz
    have HRO := Lib.hid hr
    have HOB := Lib.hid (object_any w2 v t ha)
    have hzb : (x != 0) = false := by simpa using hz
    have hzb2 : (x == 0) = true := by simpa using hz
    have HZ := Lib.hid hz
    clear hr ha hz
    go_wp2_with fail
    refine HOB.out.mono ?_
    rintro e w3 ⟨cs, hl, ho, hk, rfl, hb⟩
    have HL := Lib.hid hl
    have HO := Lib.hid ho
    have HK := Lib.hid hk
    have HB3 := Lib.hid (HB2.out.trans (hb.mono HB2.out.size))
    have HR3 := Lib.hid (HR2.out.below hb)
    have HTH := Lib.hid (HR3.out.there 0 cs.toArray.size (by rw [List.size_toArray, hl, zero80]; decide))
    have HSZ := Lib.hid (show (Tryd.prog.info? 80).map (·.size) = some cs.toArray.size from by rw [List.size_toArray, hl]; exact size80)
    have HON := Lib.hid (all_oneCell_toArray ho)
    have HF := Lib.hid (ret80 cs hl HR3.out HB3.out (Nat.le_refl _))
    clear hl ho hk hb
    go_wp2_with (refine wpList_store_mid rfl 80 (.tmp 2) (.tmp 16) rfl w.heap.size 0 cs.toArray rfl rfl HTH.out HSZ.out HON.out ?_)
    exact bodyPost_ret (v := .tuple #[.agg cs.toArray, .int .i64 0]) (results_list (rs := [.cell 2 80, .tmp 3]) rfl (by simp) (.cell w.heap.size 80 cs.toArray (0, 0) _ rfl HF.out.1 Tryd.underlying80 rfl HSZ.out (.tmp .nil))) rfl ⟨cs, HL.out, HO.out, by rw [HX.out, HZ.out], HF.out.2, fun h => absurd (HX.out.trans HZ.out) h, fun _ => ⟨t, s, HRO.out, HK.out⟩⟩
  · have hzb : (x != 0) = true := by simpa using hz
    have hzb2 : (x == 0) = false := by simpa using hz
    have HZ := Lib.hid hz
    obtain ⟨cs, hcs⟩ : ∃ cs, Tryd.zeroCells80.toList = cs := ⟨_, rfl⟩
    have HL := Lib.hid (show cs.length = 76 from hcs ▸ zero80)
    have HO := Lib.hid (show ∀ u ∈ cs, u.oneCell' = true from fun u hu => List.all_eq_true.1 zero80one u (hcs ▸ hu))
    have HK := Lib.hid (show cs[0]? = some (.int .i64 0) from hcs ▸ (by kernel_rfl))
    have HLIT := Lib.hid (show Value.agg Tryd.zeroCells80 = .agg cs.toArray from by rw [← hcs])
    have HTH := Lib.hid (HR2.out.there 0 cs.toArray.size (by rw [List.size_toArray, HL.out, zero80]; decide))
    have HSZ := Lib.hid (show (Tryd.prog.info? 80).map (·.size) = some cs.toArray.size from by rw [List.size_toArray, HL.out]; exact size80)
    have HON := Lib.hid (all_oneCell_toArray HO.out)
    have HF := Lib.hid (ret80 cs HL.out HR2.out HB2.out (Nat.le_refl _))
    clear hz hcs
    go_wp2_with (refine wpList_store_mid rfl 80 (.tmp 2) (.tmp 13) rfl w.heap.size 0 cs.toArray rfl HLIT.out HTH.out HSZ.out HON.out ?_)
    exact bodyPost_ret (v := .tuple #[.agg cs.toArray, .int .i64 x]) (results_list (rs := [.cell 2 80, .tmp 3]) rfl (by simp) (.cell w.heap.size 80 cs.toArray (0, 0) _ rfl HF.out.1 Tryd.underlying80 rfl HSZ.out (.tmp .nil))) rfl ⟨cs, HL.out, HO.out, by rw [HX.out], HF.out.2, fun _ => HK.out, fun h => absurd (HX.out.symm.trans h) HZ.out⟩
end Go.Proofs.YtfbkkcigkpffiaaDoor.St
