/- The walks of a Reader's Bytes, Raw, Fault, End at any bytes; object's id. -/
import Derived.Test.YtfbkkcigkpffiaaDoorGg
import Derived.Laws.Closers25b
import Derived.Deep.RegionHeld3
import Derived.Deep.RegionLaw
import Derived.Laws.CopyOwn
import Derived.Laws.BytesArg
namespace Go.Proofs.YtfbkkcigkpffiaaDoor.St
open Go Go.Lib Go.RowKit Go.ChangeMaps Go.Proofs.YtfbkkcigkpffiaaDoorW.PrintWords Go.Proofs.YtfbkkcigkpffiaaDoorW.PrintLast Go.Proofs.YtfbkkcigkpffiaaDoorW.PrintMore Go.Proofs.YtfbkkcigkpffiaaDoor.PStoreMany
set_option linter.unusedVariables false
set_option linter.unusedSimpArgs false
theorem vgo_range (most : Int) (h0 : 0 ≤ most) (L : Nat) : ∀ (l : List Int) (i : Nat) (n : Int), 0 ≤ (vgo most L l i n).1 ∧ (vgo most L l i n).1 ≤ most ∧ (vgo most L l i n).2.1 ≤ i + l.length
  | [], i, n => by unfold vgo; exact ⟨Int.le_refl _, h0, Nat.zero_le _⟩
  | c :: r, i, n => by
    unfold vgo
    split
    · exact ⟨Int.le_refl _, h0, Nat.zero_le _⟩
    · split
      · obtain ⟨h1, h2, h3⟩ := vgo_range most h0 L r (i + 1) (grp n c i)
        exact ⟨h1, h2, by simp only [List.length_cons]; omega⟩
      · split
        · exact ⟨Int.le_refl _, h0, Nat.zero_le _⟩
        · split
          · exact ⟨Int.le_refl _, h0, Nat.zero_le _⟩
          · rename_i h
            refine ⟨?_, by omega, by simp only [List.length_cons]; omega⟩
            unfold grp
            exact (bits_within .or .u64 _ _).1
theorem vr_range {b : List Int} {s : Rs} {most : Int} (h0 : 0 ≤ most) : 0 ≤ (vr b s most).1 ∧ (vr b s most).1 ≤ most := by
  unfold vr
  split
  · exact ⟨Int.le_refl _, h0⟩
  · exact ⟨(vgo_range most h0 _ _ _ _).1, (vgo_range most h0 _ _ _ _).2.1⟩
/-- The state ahead of the bytes. -/
def mid (b : List Int) (s : Rs) (v : Int × Rs) : Rs := if v.2.m = 0 ∧ ((b.length - v.2.p : Nat) : Int) < v.1 then ⟨s.p, 1⟩ else v.2
/-- A length of at most M, and the bytes. -/
def byr (b : List Int) (s : Rs) (M : Nat) : List Int × Rs := nx b (mid b s (vr b s M)) (vr b s M).1.toNat
set_option maxRecDepth 100000 in
set_option maxHeartbeats 4000000 in
theorem bytes_any (k : Nat) (A : Option Addr) (c : Nat) (b : List Int) (s : Rs) (M : Nat) (w : World) (h : RdS w k A c b s) (hl : b.length ≤ 1000000000) (hby : ∀ y ∈ b, Byte y) (hM0 : 0 < M) (hM : M ≤ 1000000) :
    Calls Tryd.prog 75 #[.pointer (some ⟨k, 0, none⟩), .int .i64 M] w fun e w' => ∃ g, e = .returned (.slice (some ⟨g, 0, none⟩) (byr b s M).1.length (byr b s M).1.length) ∧ w.heap.size ≤ g ∧ Blk w' g 5 ((byr b s M).1.map b8) ∧ RdS w' k A c b (byr b s M).2 ∧ But k w w' := by
  have c1 : w.cell? ⟨k, 1, none⟩ = some (.int .i64 s.p) := h.at_.blk.cell 1
  have HV := Lib.hid (var_any k A c b s M w h hl hby)
  have hvr := vr_range (b := b) (s := s) (most := (M : Int)) (by omega)
  unfold byr
  obtain ⟨⟨x, t⟩, hv⟩ : ∃ v, vr b s M = v := ⟨_, rfl⟩
  rw [hv] at HV hvr
  rw [hv]
  have hx0 : 0 ≤ x := hvr.1
  have hxM : x ≤ (M : Int) := hvr.2
  obtain ⟨n, rfl⟩ := Int.eq_ofNat_of_zero_le hx0
  obtain ⟨p, hp⟩ : ∃ p, s.p = p := ⟨_, rfl⟩
  have HPL := Lib.hid (show p ≤ b.length from hp ▸ h.le)
  rw [hp] at c1
  obtain ⟨m2, hm2⟩ : ∃ m2, mid b s ((n : Int), t) = m2 := ⟨_, rfl⟩
  have HM2 := Lib.hid hm2
  rw [show (((n : Int), t) : Int × Rs).1 = (n : Int) from rfl, Int.toNat_natCast, hm2]
  have HP := Lib.hid hp
  have hMi : (0 : Int) < (M : Int) := by omega
  clear h hv hvr hp hm2
  go_enter Tryd.func75, Tryd.ntmps75
  go_wp2_with fail
  refine HV.out.mono ?_
  rintro e w1 ⟨rfl, hr1, hb1⟩
  have HR1 := Lib.hid hr1
  have HB1 := Lib.hid hb1
  have c2 : w1.cell? ⟨k, 2, none⟩ = some (.int .i64 t.m) := hr1.at_.blk.cell 2
  obtain ⟨tm, htm⟩ : ∃ tm, t.m = tm := ⟨_, rfl⟩
  have HTM := Lib.hid htm
  rw [htm] at c2
  clear hr1 hb1 htm
  by_cases hm : tm = 0
  · have hm1 : ((tm : Int) == 0) = true := by simp; omega
    have hm2 : ((tm : Int) != 0) = false := by simp; omega
    have HL := Lib.hid (left_walk k A c b t.p t.m w1 HR1.out.at_ HR1.out.le)
    obtain ⟨d, hd⟩ : ∃ d, b.length - t.p = d := ⟨_, rfl⟩
    have hdl : d ≤ 1000000000 := by omega
    have HD := Lib.hid hd
    rw [hd] at HL
    have HM := Lib.hid hm
    clear hd hm
    by_cases hdn : d < n
    · have hdn' : (d : Int) < (n : Int) := by omega
      have HE := Lib.hid (show m2 = ⟨p, 1⟩ from by
        rw [← HM2.out]
        unfold mid
        rw [if_pos ⟨by rw [HTM.out, HM.out], by rw [HD.out]; exact hdn'⟩, HP.out])
      go_wp2_with fail
      refine HL.out.mono ?_
      rintro e w2 ⟨rfl, hb2⟩
      have HB2 := Lib.hid (HB1.out.trans (But.of_below hb2))
      have HR2 := Lib.hid (HR1.out.below hb2)
      clear hb2 c2
      go_wp2_with fail
      refine (stop_walk k A c b t.p t.m p 1 w2 HR2.out.at_).mono ?_
      rintro e w3 ⟨rfl, hr3, hb3⟩
      have HRD := Lib.hid (show RdS w3 k A c b m2 from by rw [HE.out]; exact ⟨hr3, HPL.out, (by decide : (1 : Nat) < 5)⟩)
      have HBD := Lib.hid (HB2.out.trans hb3)
      clear hr3 hb3
      go_wp2_with fail
      refine (next_any k A c b m2 n w3 HRD.out hl (by omega)).mono ?_
      rintro e w4 ⟨A4, c4, rfl, hc4, hs4, hr4, hb4⟩
      have HTK := Lib.hid (taken_walk (nx b m2 n).1 A4 c4 w4 hs4.C hc4 (by have := @nx_len b m2 n; omega))
      have HR4 := Lib.hid hr4
      have HB4 := Lib.hid (HBD.out.trans hb4)
      clear hc4 hs4 hr4 hb4
      go_wp2_with fail
      refine HTK.out.mono ?_
      rintro e w5 ⟨g, rfl, hg, hbk, hb5⟩
      have HG := Lib.hid hg
      have HBK := Lib.hid hbk
      have HB5 := Lib.hid hb5
      clear hg hbk hb5
      go_wp2_with fail
      go_ret
      exact ⟨g, rfl, Nat.le_trans HB4.out.size HG.out, HBK.out, HR4.out.below HB5.out, HB4.out.trans (But.of_below HB5.out)⟩
    · have hdn' : ¬ (d : Int) < (n : Int) := by omega
      have HE := Lib.hid (show m2 = t from by
        rw [← HM2.out]
        unfold mid
        rw [if_neg (fun h => hdn' (by have := h.2; rwa [HD.out] at this))])
      go_wp2_with fail
      refine HL.out.mono ?_
      rintro e w2 ⟨rfl, hb2⟩
      have HBD := Lib.hid (HB1.out.trans (But.of_below hb2))
      have HRD := Lib.hid (show RdS w2 k A c b m2 from by rw [HE.out]; exact HR1.out.below hb2)
      clear hb2 c2
      go_wp2_with fail
      refine (next_any k A c b m2 n w2 HRD.out hl (by omega)).mono ?_
      rintro e w4 ⟨A4, c4, rfl, hc4, hs4, hr4, hb4⟩
      have HTK := Lib.hid (taken_walk (nx b m2 n).1 A4 c4 w4 hs4.C hc4 (by have := @nx_len b m2 n; omega))
      have HR4 := Lib.hid hr4
      have HB4 := Lib.hid (HBD.out.trans hb4)
      clear hc4 hs4 hr4 hb4
      go_wp2_with fail
      refine HTK.out.mono ?_
      rintro e w5 ⟨g, rfl, hg, hbk, hb5⟩
      have HG := Lib.hid hg
      have HBK := Lib.hid hbk
      have HB5 := Lib.hid hb5
      clear hg hbk hb5
      go_wp2_with fail
      go_ret
      exact ⟨g, rfl, Nat.le_trans HB4.out.size HG.out, HBK.out, HR4.out.below HB5.out, HB4.out.trans (But.of_below HB5.out)⟩
  · have hm1 : ((tm : Int) == 0) = false := by simp; omega
    have hm2 : ((tm : Int) != 0) = true := by simp; omega
    have HE := Lib.hid (show m2 = t from by
      rw [← HM2.out]
      unfold mid
      rw [if_neg (fun h => hm (by rw [← HTM.out]; exact h.1))])
    have HBD := HB1
    have HRD := Lib.hid (show RdS w1 k A c b m2 from by rw [HE.out]; exact HR1.out)
    clear hm
    go_wp2_with fail
    refine (next_any k A c b m2 n w1 HRD.out hl (by omega)).mono ?_
    rintro e w4 ⟨A4, c4, rfl, hc4, hs4, hr4, hb4⟩
    have HTK := Lib.hid (taken_walk (nx b m2 n).1 A4 c4 w4 hs4.C hc4 (by have := @nx_len b m2 n; omega))
    have HR4 := Lib.hid hr4
    have HB4 := Lib.hid (HBD.out.trans hb4)
    clear hc4 hs4 hr4 hb4
    go_wp2_with fail
    refine HTK.out.mono ?_
    rintro e w5 ⟨g, rfl, hg, hbk, hb5⟩
    have HG := Lib.hid hg
    have HBK := Lib.hid hbk
    have HB5 := Lib.hid hb5
    clear hg hbk hb5
    go_wp2_with fail
    go_ret
    exact ⟨g, rfl, Nat.le_trans HB4.out.size HG.out, HBK.out, HR4.out.below HB5.out, HB4.out.trans (But.of_below HB5.out)⟩
set_option maxRecDepth 100000 in
set_option maxHeartbeats 4000000 in
theorem raw_any (k : Nat) (A : Option Addr) (c : Nat) (b : List Int) (s : Rs) (n : Nat) (w : World) (h : RdS w k A c b s) (hl : b.length ≤ 1000000000) (hn : n ≤ 1000000000) :
    Calls Tryd.prog 51 #[.pointer (some ⟨k, 0, none⟩), .int .i64 n] w fun e w' => ∃ g, e = .returned (.slice (some ⟨g, 0, none⟩) (nx b s n).1.length (nx b s n).1.length) ∧ w.heap.size ≤ g ∧ Blk w' g 5 ((nx b s n).1.map b8) ∧ RdS w' k A c b (nx b s n).2 ∧ But k w w' := by
  have HNX := Lib.hid (next_any k A c b s n w h hl (by omega))
  have hn0 : ¬ (n : Int) < 0 := by omega
  have HLN := Lib.hid (@nx_len b s n)
  clear h
  go_enter Tryd.func51, Tryd.ntmps51
  go_wp2_with fail
  refine HNX.out.mono ?_
  rintro e w4 ⟨A4, c4, rfl, hc4, hs4, hr4, hb4⟩
  have HTK := Lib.hid (taken_walk (nx b s n).1 A4 c4 w4 hs4.C hc4 (by have := HLN.out; omega))
  have HR4 := Lib.hid hr4
  have HB4 := Lib.hid hb4
  clear hc4 hs4 hr4 hb4
  go_wp2_with fail
  refine HTK.out.mono ?_
  rintro e w5 ⟨g, rfl, hg, hbk, hb5⟩
  have HG := Lib.hid hg
  have HBK := Lib.hid hbk
  have HB5 := Lib.hid hb5
  clear hg hbk hb5
  go_wp2_with fail
  go_ret
  exact ⟨g, rfl, Nat.le_trans HB4.out.size HG.out, HBK.out, HR4.out.below HB5.out, HB4.out.trans (But.of_below HB5.out)⟩
/-- The five codes' numbers: none but the first is OK. -/
def Ers (er : Nat → Int) (w : World) : Prop := ∀ m, m < 5 → w.cell? ⟨3, m, none⟩ = some (.int .i64 (er m))
theorem Ers.below {er : Nat → Int} {w w' : World} (h : Ers er w) (hb : Below w.heap.size w w') : Ers er w' := fun m hm => pw_cell_below hb (h m hm)
theorem Ers.but {er : Nat → Int} {k : Nat} {w w' : World} (h : Ers er w) (hb : But k w w') (hk : 3 < k) : Ers er w' := fun m hm => cell_but hb (h m hm) (by show 3 ≠ k; omega)
set_option maxRecDepth 100000 in
set_option maxHeartbeats 4000000 in
theorem fault_any (er : Nat → Int) (k : Nat) (A : Option Addr) (c : Nat) (b : List Int) (s : Rs) (w : World) (h : RdS w k A c b s) (he : Ers er w) :
    Calls Tryd.prog 74 #[.pointer (some ⟨k, 0, none⟩)] w fun e w' => e = .returned (.int .i64 (er s.m)) ∧ w = w' := by
  obtain ⟨p, m⟩ := s
  have c2 : w.cell? ⟨k, 2, none⟩ = some (.int .i64 m) := h.at_.blk.cell 2
  have hm5 : m < 5 := h.m5
  have e0 := he m hm5
  have h0 : (0 : Int) ≤ (m : Int) := by omega
  have h5 : (m : Int) < 5 := by omega
  clear h he
  show Calls Tryd.prog 74 #[.pointer (some ⟨k, 0, none⟩)] w fun e w' => e = .returned (.int .i64 (er m)) ∧ w = w'
  obtain ⟨x, hx⟩ : ∃ x, er m = x := ⟨_, rfl⟩
  rw [hx] at e0 ⊢
  clear hx
  go_enter Tryd.func74, Tryd.ntmps74
  go_wp2_with fail
  go_ret
  exact ⟨rfl, rfl⟩
/-- What End tells. -/
def endr (er : Nat → Int) (b : List Int) (s : Rs) : Int := if s.m = 0 ∧ s.p < b.length then 13 else er s.m
set_option maxRecDepth 100000 in
set_option maxHeartbeats 4000000 in
theorem end_any (er : Nat → Int) (k : Nat) (A : Option Addr) (c : Nat) (b : List Int) (s : Rs) (w : World) (h : RdS w k A c b s) (he : Ers er w) (hl : b.length ≤ 1000000000) :
    Calls Tryd.prog 56 #[.pointer (some ⟨k, 0, none⟩)] w fun e w' => e = .returned (.int .i64 (endr er b s)) ∧ Below w.heap.size w w' := by
  obtain ⟨p, m⟩ := s
  have c2 : w.cell? ⟨k, 2, none⟩ = some (.int .i64 m) := h.at_.blk.cell 2
  have HF := Lib.hid (fun W (hb : Below w.heap.size w W) => (show Calls Tryd.prog 74 #[.pointer (some ⟨k, 0, none⟩)] W fun e w' => e = .returned (.int .i64 (er m)) ∧ W = w' from fault_any er k A c b ⟨p, m⟩ W (h.below hb) (he.below hb)))
  have HE := Lib.hid (show endr er b ⟨p, m⟩ = if m = 0 ∧ p < b.length then 13 else er m from rfl)
  rw [HE.out]
  have hple : p ≤ b.length := h.le
  have HL := Lib.hid (left_walk k A c b p m w h.at_ hple)
  obtain ⟨d, hd⟩ : ∃ d, b.length - p = d := ⟨_, rfl⟩
  rw [hd] at HL
  by_cases hm : m = 0
  · have hm1 : ((m : Int) == 0) = true := by simp; omega
    by_cases hd0 : 0 < d
    · have hd1 : (0 : Int) < (d : Int) := by omega
      rw [if_pos ⟨hm, by omega⟩]
      clear h he hd hm HE
      go_enter Tryd.func56, Tryd.ntmps56
      go_wp2_with fail
      refine HL.out.mono ?_
      rintro e w1 ⟨rfl, hb⟩
      have HB := Lib.hid hb
      clear hb c2
      go_wp2_with fail
      go_ret
      exact ⟨rfl, HB.out⟩
    · have hd1 : ¬ (0 : Int) < (d : Int) := by omega
      rw [if_neg (fun h => by have := h.2; omega)]
      clear h he hd hm HE
      go_enter Tryd.func56, Tryd.ntmps56
      go_wp2_with fail
      refine HL.out.mono ?_
      rintro e w1 ⟨rfl, hb⟩
      have HB := Lib.hid hb
      clear hb c2
      go_wp2_with fail
      refine (HF.out _ HB.out).mono ?_
      rintro e w2 ⟨rfl, rfl⟩
      go_wp2_with fail
      go_ret
      exact ⟨rfl, HB.out⟩
  · have hm1 : ((m : Int) == 0) = false := by simp; omega
    rw [if_neg (fun h => hm h.1)]
    clear h he hd hm HE
    go_enter Tryd.func56, Tryd.ntmps56
    go_wp2_with fail
    refine (HF.out _ (Below.refl _ _)).mono ?_
    rintro e w2 ⟨rfl, rfl⟩
    go_wp2_with fail
    go_ret
    exact ⟨rfl, Below.refl _ _⟩
end Go.Proofs.YtfbkkcigkpffiaaDoor.St

namespace Go.Proofs.YtfbkkcigkpffiaaDoor.St
open Go Go.Lib Go.RowKit Go.ChangeMaps Go.Proofs.YtfbkkcigkpffiaaDoorW.PrintWords Go.Proofs.YtfbkkcigkpffiaaDoorW.PrintLast Go.Proofs.YtfbkkcigkpffiaaDoorW.PrintMore Go.Proofs.YtfbkkcigkpffiaaDoor.PStoreMany
set_option linter.unusedVariables false
set_option linter.unusedSimpArgs false
theorem nx_or {b : List Int} {s : Rs} {n : Nat} : (nx b s n).1 = [] ∨ (nx b s n).1.length = n := by
  unfold nx
  split
  · exact .inl rfl
  · split
    · exact .inl rfl
    · right
      rw [List.length_take, List.length_drop]
      omega
/-- An id that is read: none is all noughts. -/
def idv (l : List Int) : By := if l.length = 32 then Lib.bytesOf l else zid
theorem idv_len (l : List Int) : (idv l).length = 32 := by
  unfold idv
  split
  · unfold Lib.bytesOf; rw [List.length_map]; assumption
  · decide
theorem cl_bytes : ∀ (l : List Int), (∀ y ∈ l, Byte y) → cl (Lib.bytesOf l) = l.map b8 := fun l h => by
  have h1 := back l h
  have h2 : cl (Lib.bytesOf l) = ((Lib.bytesOf l).map (fun u => (u.toNat : Int))).map b8 := by rw [List.map_map]; rfl
  rw [h2, h1]
theorem idv_splice {l : List Int} (h : l = [] ∨ l.length = 32) (hb : ∀ y ∈ l, Byte y) : splice (noughts 32) 0 (l.map b8) = cl (idv l) := by
  rcases h with rfl | h
  · unfold idv
    rw [if_neg (by decide)]
    rfl
  · unfold idv
    rw [if_pos h, cl_bytes l hb]
    simp [splice, h]
/-- copy of bytes into a block of one's own. -/
theorem run_copy_into {w : World} {g gr t : Nat} (cur : List Value) (l : List Int) (hg : Blk w g t cur) (hr : Blk w gr 5 (l.map b8)) (hl : l.length ≤ cur.length) (ty : TypeId) :
    ∃ w', (Builtin.copy_ #[30, 30] ty #[.slice (some ⟨g, 0, none⟩) cur.length cur.length, .slice (some ⟨gr, 0, none⟩) l.length l.length]).run Tryd.prog w = .ok (.int .i64 (l.length : Int)) w' ∧ Blk w' g t (splice cur 0 (l.map b8)) ∧ Below g w w' := by
  by_cases h0 : l.length = 0
  · have hl0 : l = [] := List.eq_nil_of_length_eq_zero h0
    subst hl0
    refine ⟨w, ?_, by simpa [splice] using hg, Below.refl _ _⟩
    exact run_copy_none (P := Tryd.prog) w 30 30 ty 5 _ _ _ _ 0 0 Tryd.underlying30 (by kernel_rfl) (by simp)
  · refine ⟨w.setRow g (cur.toArray.toList.take 0 ++ (l.map b8 ++ cur.toArray.toList.drop (0 + (l.map b8).length))).toArray, ?_, ?_, below_setRow (Below.refl _ _) (Nat.le_refl _) _⟩
    · have h := run_copy_row (P := Tryd.prog) w 30 30 ty 5 g 0 cur.length cur.length ⟨gr, 0, none⟩ l.length l.length cur.toArray t (l.map b8) Tryd.underlying30 (by kernel_rfl) hg (by rw [List.length_map]; exact (Nat.min_eq_left hl).symm) (fun j v hj => by rw [Addr.add_lit, Nat.zero_add, hr.cell]; exact hj) (by simpa using hl) (fun v hv => by obtain ⟨x, _, rfl⟩ := List.mem_map.1 hv; rfl)
      refine h.trans ?_
      rw [List.length_map]
      rfl
    · have h := setRow_heap w g _ (((cur.toArray.toList.take 0 ++ (l.map b8 ++ cur.toArray.toList.drop (0 + (l.map b8).length)))).toArray) t (0, 0) (show w.heap[g]? = _ from hg)
      unfold Blk
      rw [h]
      simp [splice]
theorem But.low {k g : Nat} {a b c : World} (h : But k a b) (hb : Below g b c) (hg : a.heap.size ≤ g) : But k a c :=
  ⟨hb.os.trans h.os, hb.tape.trans h.tape, hb.output.trans h.output, Nat.le_trans h.size hb.size, fun j hj hn => (hb.block j (by omega)).trans (h.block j hj hn)⟩
theorem setCell_zero33' (w : World) (r : Nat) (x : By) (hx : x.length = 32) (hr : Blk w r 33 (noughts 32)) : Blk (w.setCells r 0 (cl x)) r 33 (cl x) := by
  have h9 := Blk.setCells (cl x) 0 w _ hr
  rwa [sets_all _ _ (by rw [List.length_map, hx]; rfl)] at h9
def idr (b : List Int) (s : Rs) : By × Rs := (idv (nx b s 32).1, (nx b s 32).2)
set_option maxRecDepth 100000 in
set_option maxHeartbeats 4000000 in
theorem rid_any (k : Nat) (A : Option Addr) (c : Nat) (b : List Int) (s : Rs) (w : World) (h : RdS w k A c b s) (hl : b.length ≤ 1000000000) (hby : ∀ y ∈ b, Byte y) :
    Calls Tryd.prog 76 #[.pointer (some ⟨k, 0, none⟩)] w fun e w' => e = .returned (vId (idr b s).1) ∧ RdS w' k A c b (idr b s).2 ∧ But k w w' := by
  obtain ⟨w1, hw1⟩ : ∃ w1, w.alloc (.cells (noughts 32).toArray 33) = w1 := ⟨_, rfl⟩
  obtain ⟨w2, hw2⟩ : ∃ w2, w1.alloc (.cells (noughts 32).toArray 33) = w2 := ⟨_, rfl⟩
  have HW1 := Lib.hid hw1
  have HW2 := Lib.hid hw2
  have hz1 : w1.heap.size = w.heap.size + 1 := by rw [← hw1]; simp
  have HZ1 := Lib.hid hz1
  have HB1 := Lib.hid (show Below w.heap.size w w1 from hw1 ▸ below_alloc (Below.refl _ _) _)
  have HB2 := Lib.hid (show Below w.heap.size w w2 from HB1.out.trans ((hw2 ▸ below_alloc (Below.refl _ _) _ : Below w1.heap.size w1 w2).mono HB1.out.size))
  have HR1 := Lib.hid (show Blk w1 w.heap.size 33 (noughts 32) from hw1 ▸ Blk.new w 33 (noughts 32))
  have HR2 := Lib.hid (show Blk w2 w.heap.size 33 (noughts 32) from HR1.out.below (hw2 ▸ below_alloc (Below.refl _ _) _))
  have HX2 := Lib.hid (show Blk w2 (w.heap.size + 1) 33 (noughts 32) from hz1 ▸ hw2 ▸ Blk.new w1 33 (noughts 32))
  have HRW := Lib.hid (fun W (hb : Below w2.heap.size w2 W) => raw_any k A c b s 32 W ((h.below HB2.out).below hb) hl (by decide))
  have HKL := Lib.hid (show k < w.heap.size from h.at_.blk.lt)
  unfold idr
  have hor := @nx_or b s 32
  have hbl : ∀ y ∈ (nx b s 32).1, Byte y := fun y hy => hby y (nx_sub y hy)
  obtain ⟨l, hle⟩ : ∃ l, (nx b s 32).1 = l := ⟨_, rfl⟩
  obtain ⟨t, ht⟩ : ∃ t, (nx b s 32).2 = t := ⟨_, rfl⟩
  rw [hle] at hor hbl HRW
  rw [ht] at HRW
  rw [hle, ht]
  have HSP := Lib.hid (idv_splice hor hbl)
  have HOR := Lib.hid hor
  have HDL := Lib.hid (idv_len l)
  obtain ⟨d, hd⟩ : ∃ d, idv l = d := ⟨_, rfl⟩
  rw [hd] at HSP HDL ⊢
  have HS0 := Lib.hid h.at_.src
  clear hd h hw1 hw2 hle ht hor hbl hby hz1
  go_enter Tryd.func76, Tryd.ntmps76
  go_upto_region 2 with fail
  change Code.wp _ _ _ _ ((w.alloc (.cells (noughts 32).toArray 33)).alloc (.cells (noughts 32).toArray 33))
  rw [HW1.out, HW2.out]
  obtain ⟨g, hg⟩ : ∃ g, w.heap.size + 1 = g := ⟨_, rfl⟩
  rw [hg] at HX2 ⊢
  have HG := Lib.hid hg
  have HGK := Lib.hid (show g ≠ k from by have := HKL.out; omega)
  have HLL := Lib.hid (show l.length ≤ (noughts 32).length from by rcases HOR.out with h | h <;> simp [h])
  clear hg
  go_region_held3 (fun w' => True) (trivial)
    (first | (go_at_call 51; (refine (HRW.out _ (pw_below_drewN (Below.refl _ _) 1)).mono ?_); rintro e w4 ⟨gr, rfl, hgr, hbk, hr4, hb4⟩; have HBK := Lib.hid hbk; have HR4 := Lib.hid hr4; have HB4 := Lib.hid (But.trans (But.of_below (k := k) (pw_below_drewN (Below.refl _ w2) 1)) hb4); clear hgr hbk hr4 hb4) | (obtain ⟨w5, hrun, hx5, hb5⟩ := run_copy_into (noughts 32) l (HX2.out.but HB4.out HGK.out) HBK.out HLL.out 3; rw [show Sem.run Tryd.prog (Builtin.copy_ #[30, 30] 3 #[Value.slice (some ⟨g, 0, none⟩) 32 32, Value.slice (some ⟨gr, 0, none⟩) l.length l.length]) w4 = _ from hrun]))
  rw [HSP.out] at hx5
  have HX5 := Lib.hid hx5
  have HB5 := Lib.hid hb5
  have HG5 := HG.out
  have HK5 := HKL.out
  have hr5 : w5.heap[w.heap.size]? = w4.heap[w.heap.size]? := HB5.out.block _ (by omega)
  have hk5 : w5.heap[k]? = w4.heap[k]? := HB5.out.block _ (by omega)
  have HR5 := Lib.hid (show Blk w5 w.heap.size 33 (noughts 32) from hr5.trans (HR2.out.but HB4.out (by omega)))
  have HBA := Lib.hid (show But k w w5 from ((But.of_below HB2.out).trans HB4.out).low HB5.out (by omega))
  have HRD := Lib.hid (show RdS w5 k A c b t from ⟨⟨hk5.trans HR4.out.at_.blk, HR4.out.at_.cap, HS0.out.but HBA.out⟩, HR4.out.le, HR4.out.m5⟩)
  clear hx5 hb5 hrun HG5 HK5 hr5 hk5
  have HLD := Lib.hid (HX5.out.loads 33 Tryd.isAgg33 (fun W => by rw [List.length_map, HDL.out]; exact Tryd.sizeOf33 W))
  have HTH := Lib.hid (HR5.out.there 0 (cl d).toArray.size (by rw [List.size_toArray, List.length_map, HDL.out]; simp))
  have HSZ := Lib.hid (size33' HDL.out)
  have HON := Lib.hid (one33 d)
  have HKW := Lib.hid (show w.heap.size ≠ k from by have := HKL.out; omega)
  have HF1 := Lib.hid (setCell_zero33' w5 _ d HDL.out HR5.out)
  have HF2 := Lib.hid (But.setCells (k := w.heap.size) (cl d) 0 w5 (But.refl _ _))
  go_wp2_with (first | (with_reducible refine wpList_ld rfl 33 (.tmp 3) rfl ⟨g, 0, none⟩ rfl _ HLD.out ?_) | (refine wpList_store_mid rfl 33 (.tmp 2) (.tmp 8) rfl w.heap.size 0 (cl d).toArray rfl rfl HTH.out HSZ.out HON.out ?_))
  have HBZ := Lib.hid (show But k w (w5.setCells w.heap.size 0 (cl d)) from (HBA.out).both HF2.out (Nat.le_refl _))
  exact bodyPost_ret (v := .agg (cl d).toArray) (results_single rfl (.cell w.heap.size 33 (cl d).toArray (0, 0) _ rfl HF1.out Tryd.underlying33 rfl HSZ.out .nil)) rfl ⟨rfl, ⟨⟨HRD.out.at_.blk.but HF2.out (Ne.symm HKW.out), HRD.out.at_.cap, HS0.out.but HBZ.out⟩, HRD.out.le, HRD.out.m5⟩, HBZ.out⟩
end Go.Proofs.YtfbkkcigkpffiaaDoor.St

namespace Go.Proofs.YtfbkkcigkpffiaaDoor.St
open Go Go.Lib Go.RowKit Go.ChangeMaps Go.Proofs.YtfbkkcigkpffiaaDoorW.PrintWords Go.Proofs.YtfbkkcigkpffiaaDoorW.PrintLast Go.Proofs.YtfbkkcigkpffiaaDoorW.PrintMore Go.Proofs.YtfbkkcigkpffiaaDoor.PStoreMany
set_option linter.unusedVariables false
set_option linter.unusedSimpArgs false
/-- Bytes as a text. -/
abbrev sv (l : List Int) : Value := .string (strOfNums l)
theorem conv_blk {w : World} {g : Nat} {l : List Int} (h : Blk w g 5 (l.map b8)) : (convert 30 9 (.slice (some ⟨g, 0, none⟩) l.length l.length)).run Tryd.prog w = .ok (sv l) w :=
  run_convert_bytes_arg (P := Tryd.prog) w 30 5 Tryd.underlying30 Tryd.underlying5 g 0 l.length l.length l rfl (fun i hi => by
    rw [Nat.zero_add, h.cell, List.getElem?_map, List.getElem?_eq_getElem hi, List.getD_eq_getElem?_getD, List.getElem?_eq_getElem hi]
    rfl) 9 Tryd.underlying9
theorem fill_pre : ∀ (l : List Value) (p : List Value) (z : Array Value), p.length + l.length ≤ z.size → z.toList.take p.length = p → (l.zipIdx p.length).foldl (fun cs x => cs.setIfInBounds x.snd x.fst) z = (p ++ l ++ z.toList.drop (p.length + l.length)).toArray
  | [], p, z, hs, hp => by
    apply Array.ext'
    simp only [List.zipIdx_nil, List.foldl_nil, List.append_nil, List.length_nil, Nat.add_zero]
    conv => lhs; rw [← List.take_append_drop p.length z.toList, hp]
  | x :: l, p, z, hs, hp => by
    rw [List.zipIdx_cons, List.foldl_cons]
    have hlt : p.length < z.size := by simp only [List.length_cons] at hs; omega
    have h := fill_pre l (p ++ [x]) (z.setIfInBounds p.length x) (by rw [Array.size_setIfInBounds, List.length_append, List.length_singleton]; simp only [List.length_cons] at hs; omega) (by
      rw [Array.toList_setIfInBounds, List.length_append, List.length_singleton, List.take_succ_eq_append_getElem (by rw [List.length_set]; simpa using hlt), List.take_set_of_le (Nat.le_refl _), hp, List.getElem_set_self])
    simp only [List.length_append, List.length_singleton] at h
    rw [h]
    rw [Array.toList_setIfInBounds, List.drop_set_of_lt (by omega)]
    simp [Nat.add_assoc, Nat.add_comm 1]
theorem fill_id {d : By} (hd : d.length = 32) (z : Array Value) (hz : 32 ≤ z.size) : ((cl d).zipIdx).foldl (fun cs x => cs.setIfInBounds x.snd x.fst) z = (cl d ++ z.toList.drop 32).toArray := by
  have h := fill_pre (cl d) [] z (by simp [hd]; exact hz) rfl
  simpa [hd] using h
theorem u8r_range (b : List Int) (s : Rs) : 0 ≤ (u8r b s).1 ∧ (u8r b s).1 ≤ 255 := by
  have h := wrap_within .u8 (fx b s 1).1
  exact h
structure TagV where
  id : By
  kd : Int
  nm : List Int
  who : List Int
  tm : Int
  tx : List Int
def tagr (b : List Int) (s : Rs) : TagV × Rs :=
  let a := idr b s
  let u := u8r b a.2
  let n := byr b u.2 255
  let o := byr b n.2 255
  let t := fx b o.2 8
  let x := byr b t.2 4096
  (⟨a.1, u.1, n.1, o.1, t.1, x.1⟩, x.2)
def TagV.cells (v : TagV) : List Value := cl v.id ++ [.int .i64 v.kd, sv v.nm, sv v.who, .int .u64 v.tm, sv v.tx]
theorem fill_size : ∀ (l : List Value) (n : Nat) (z : Array Value), ((l.zipIdx n).foldl (fun cs x => cs.setIfInBounds x.snd x.fst) z).size = z.size
  | [], _, _ => rfl
  | x :: l, n, z => by
    rw [List.zipIdx_cons, List.foldl_cons, fill_size l]
    simp
theorem TagV.len {v : TagV} (h : v.id.length = 32) : v.cells.length = 37 := by simp [TagV.cells, h]
theorem TagV.one (v : TagV) : ∀ u ∈ v.cells, u.oneCell' = true := fun u hu => by
  unfold TagV.cells at hu
  rcases List.mem_append.1 hu with hu | hu
  · obtain ⟨b, _, rfl⟩ := List.mem_map.1 hu; rfl
  · simp only [List.mem_cons, List.not_mem_nil, or_false] at hu
    rcases hu with rfl | rfl | rfl | rfl | rfl <;> rfl
theorem tag_lit {d : By} (hd : d.length = 32) (x : Int) : Value.agg ((((cl d).zipIdx).foldl (fun cs x => cs.setIfInBounds x.snd x.fst) (TagV.cells ⟨zid, 0, [], [], 0, []⟩).toArray).setIfInBounds 32 (.int .i64 x)) = .agg (TagV.cells ⟨d, x, [], [], 0, []⟩).toArray := by
  rw [fill_id hd _ (by decide)]
  congr 1
  simp [TagV.cells, zid, hd]
theorem tag_set2 {d : By} (hd : d.length = 32) (x t : Int) (n n' o y : List Int) : (TagV.cells ⟨d, x, n, o, t, y⟩).set 33 (sv n') = TagV.cells ⟨d, x, n', o, t, y⟩ := by
  simp [TagV.cells, hd, List.set_append_right]
theorem tag_set3 {d : By} (hd : d.length = 32) (x t : Int) (n o o' y : List Int) : (TagV.cells ⟨d, x, n, o, t, y⟩).set 34 (sv o') = TagV.cells ⟨d, x, n, o', t, y⟩ := by
  simp [TagV.cells, hd, List.set_append_right]
theorem tag_set4 {d : By} (hd : d.length = 32) (x t t' : Int) (n o y : List Int) : (TagV.cells ⟨d, x, n, o, t, y⟩).set 35 (.int .u64 t') = TagV.cells ⟨d, x, n, o, t', y⟩ := by
  simp [TagV.cells, hd, List.set_append_right]
theorem tag_set5 {d : By} (hd : d.length = 32) (x t : Int) (n o y y' : List Int) : (TagV.cells ⟨d, x, n, o, t, y⟩).set 36 (sv y') = TagV.cells ⟨d, x, n, o, t, y'⟩ := by
  simp [TagV.cells, hd, List.set_append_right]
theorem size117 : (Tryd.prog.info? 117).map (·.size) = some 37 := by kernel_rfl
set_option maxRecDepth 100000 in
set_option maxHeartbeats 4000000 in
theorem tag_any (k : Nat) (A : Option Addr) (c : Nat) (b : List Int) (s : Rs) (w : World) (h : RdS w k A c b s) (hl : b.length ≤ 1000000000) (hby : ∀ y ∈ b, Byte y) :
    Calls Tryd.prog 55 #[.pointer (some ⟨k, 0, none⟩)] w fun e w' => e = .returned (.iface 117 (.agg (tagr b s).1.cells.toArray)) ∧ RdS w' k A c b (tagr b s).2 ∧ But k w w' := by
  have HBY := Lib.hid hby
  have H1 := Lib.hid (rid_any k A c b s w h hl hby)
  unfold tagr
  obtain ⟨d, hd⟩ : ∃ d, (idr b s).1 = d := ⟨_, rfl⟩
  obtain ⟨s1, hs1⟩ : ∃ s1, (idr b s).2 = s1 := ⟨_, rfl⟩
  have HDL := Lib.hid (show d.length = 32 from hd ▸ idv_len _)
  rw [hd, hs1] at H1
  simp only [hd, hs1]
  have HS0 := Lib.hid h.at_.src
  clear h hd hs1 hby
  have hxr := u8r_range b s1
  obtain ⟨x, hx⟩ : ∃ x, (u8r b s1).1 = x := ⟨_, rfl⟩
  obtain ⟨s2, hs2⟩ : ∃ s2, (u8r b s1).2 = s2 := ⟨_, rfl⟩
  have H2 := Lib.hid (fun W (hr : RdS W k A c b s1) => u8_any k A c b s1 W hr hl)
  rw [hx] at hxr
  rw [hx, hs2] at H2
  rw [hx, hs2]
  obtain ⟨n, hn⟩ : ∃ n, (byr b s2 255).1 = n := ⟨_, rfl⟩
  obtain ⟨s3, hs3⟩ : ∃ s3, (byr b s2 255).2 = s3 := ⟨_, rfl⟩
  have H3 := Lib.hid (fun W (hr : RdS W k A c b s2) => bytes_any k A c b s2 255 W hr hl HBY.out (by decide) (by decide))
  rw [hn, hs3] at H3
  rw [hn, hs3]
  obtain ⟨o, ho⟩ : ∃ o, (byr b s3 255).1 = o := ⟨_, rfl⟩
  obtain ⟨s4, hs4⟩ : ∃ s4, (byr b s3 255).2 = s4 := ⟨_, rfl⟩
  have H4 := Lib.hid (fun W (hr : RdS W k A c b s3) => bytes_any k A c b s3 255 W hr hl HBY.out (by decide) (by decide))
  rw [ho, hs4] at H4
  rw [ho, hs4]
  obtain ⟨t, ht⟩ : ∃ t, (fx b s4 8).1 = t := ⟨_, rfl⟩
  obtain ⟨s5, hs5⟩ : ∃ s5, (fx b s4 8).2 = s5 := ⟨_, rfl⟩
  have H5 := Lib.hid (fun W (hr : RdS W k A c b s4) => u64_any k A c b s4 W hr hl)
  rw [ht, hs5] at H5
  rw [ht, hs5]
  obtain ⟨y, hy⟩ : ∃ y, (byr b s5 4096).1 = y := ⟨_, rfl⟩
  obtain ⟨s6, hs6⟩ : ∃ s6, (byr b s5 4096).2 = s6 := ⟨_, rfl⟩
  have H6 := Lib.hid (fun W (hr : RdS W k A c b s5) => bytes_any k A c b s5 4096 W hr hl HBY.out (by decide) (by decide))
  rw [hy, hs6] at H6
  rw [hy, hs6]
  have hx0 := hxr.1
  have hx1 := hxr.2
  clear hx hs2 hn hs3 ho hs4 ht hs5 hy hs6 hxr
  unfold TagV.cells
  dsimp only
  go_enter Tryd.func55, Tryd.ntmps55
  go_wp2_with fail
  refine H1.out.mono ?_
  rintro e w1 ⟨rfl, hr1, hb1⟩
  have HR1 := Lib.hid hr1
  have HB1 := Lib.hid hb1
  clear hr1 hb1
  go_wp2_with fail
  refine (H2.out _ HR1.out).mono ?_
  rintro e w2 ⟨rfl, hr2, hb2⟩
  have HR2 := Lib.hid hr2
  have HB2 := Lib.hid (HB1.out.trans hb2)
  clear hr2 hb2
  obtain ⟨w3, hw3⟩ : ∃ w3, w2.alloc (.cells (TagV.cells ⟨zid, 0, [], [], 0, []⟩).toArray 117) = w3 := ⟨_, rfl⟩
  have HW3 := Lib.hid hw3
  obtain ⟨r, hr⟩ : ∃ r, w2.heap.size = r := ⟨_, rfl⟩
  have HB3 := Lib.hid (show Below w2.heap.size w2 w3 from hw3 ▸ below_alloc (Below.refl _ _) _)
  have HT3 := Lib.hid (show Blk w3 r 117 (TagV.cells ⟨zid, 0, [], [], 0, []⟩) from hr ▸ hw3 ▸ Blk.new w2 117 _)
  have HR3 := Lib.hid (HR2.out.below HB3.out)
  have HRR := Lib.hid hr
  clear hw3 hr
  have HKR := Lib.hid (show k < r from by
    have h1 := HR2.out.at_.blk.lt
    have h2 := HRR.out
    omega)
  have HTH := Lib.hid (HT3.out.there 0 (TagV.cells ⟨d, x, [], [], 0, []⟩).toArray.size (by rw [List.size_toArray, TagV.len HDL.out, TagV.len (v := ⟨zid, 0, [], [], 0, []⟩) (by decide)]; decide))
  have HSZ := Lib.hid (show (Tryd.prog.info? 117).map (·.size) = some (TagV.cells ⟨d, x, [], [], 0, []⟩).toArray.size from by rw [List.size_toArray, TagV.len HDL.out]; exact size117)
  have HON := Lib.hid (all_oneCell_toArray (TagV.one ⟨d, x, [], [], 0, []⟩))
  have HLIT := Lib.hid (tag_lit HDL.out x)
  have HT4 := Lib.hid (show Blk (w3.setCells r 0 (TagV.cells ⟨d, x, [], [], 0, []⟩)) r 117 (TagV.cells ⟨d, x, [], [], 0, []⟩) from by
    have h9 := Blk.setCells (TagV.cells ⟨d, x, [], [], 0, []⟩) 0 w3 _ HT3.out
    rwa [sets_all _ _ (by rw [TagV.len HDL.out, TagV.len (v := ⟨zid, 0, [], [], 0, []⟩) (by decide)])] at h9)
  have HB4 := Lib.hid (show Below w2.heap.size w2 (w3.setCells r 0 (TagV.cells ⟨d, x, [], [], 0, []⟩)) from (But.setCells (k := r) (TagV.cells ⟨d, x, [], [], 0, []⟩) 0 w3 (But.of_below HB3.out)).new (by rw [HRR.out]; exact Nat.le_refl _))
  have hdl := HDL.out
  have hfz := fun z => fill_size (cl d) 0 z
  go_upto_region 2 with (first | ((change wpList _ _ _ _ _ (w2.alloc (.cells (TagV.cells ⟨zid, 0, [], [], 0, []⟩).toArray 117))); rw [HW3.out, HRR.out]; refine wpList_store_mid rfl 117 (.tmp 3) (.tmp 9) rfl r 0 (TagV.cells ⟨d, x, [], [], 0, []⟩).toArray rfl HLIT.out HTH.out HSZ.out HON.out ?_))
  clear hdl hfz HLIT HTH HSZ HON HT3 HB3 HR3 HW3
  obtain ⟨w4, hw4⟩ : ∃ w4, w3.setCells r 0 (TagV.cells ⟨d, x, [], [], 0, []⟩) = w4 := ⟨_, rfl⟩
  rw [hw4] at HT4 HB4
  change Code.wp _ _ _ _ (w3.setCells r 0 (TagV.cells ⟨d, x, [], [], 0, []⟩))
  rw [hw4]
  have HRa := Lib.hid (HR2.out.below HB4.out)
  have HBa := Lib.hid (HB2.out.trans (But.of_below HB4.out))
  clear hw4 HB4
  go_wp2_with fail
  refine (H3.out _ HRa.out).mono ?_
  rintro e wa0 ⟨g0, rfl, hg, hbk, hr, hb⟩
  have hcv := conv_blk hbk
  have HTb0 := Lib.hid (HT4.out.but hb (by have := HKR.out; omega))
  have f0 := HTb0.out.frozen 33
  have cc0 := (HTb0.out.cell 33).trans (List.getElem?_eq_getElem (show 33 < (TagV.cells ⟨d, x, [], [], 0, []⟩).length by rw [TagV.len HDL.out]; decide))
  have HRb0 := Lib.hid hr
  have HBb0 := Lib.hid hb
  clear hr hb
  go_upto_region 3 with fail
  obtain ⟨wc0, hwc⟩ : ∃ wc0, wa0.setCell ⟨r, 33, none⟩ (sv n) = wc0 := ⟨_, rfl⟩
  rw [hwc]
  have HTc0 := Lib.hid (show Blk wc0 r 117 (TagV.cells ⟨d, x, n, [], 0, []⟩) from by rw [← hwc, ← tag_set2 HDL.out x 0 [] n [] []]; exact HTb0.out.set 33 _)
  have hbc : But r wa0 wc0 := hwc ▸ (But.refl r wa0).set 33 _
  have HBc0 := Lib.hid ((HBa.out.trans HBb0.out).both hbc (by have := HRR.out; have := HB2.out.size; omega))
  have HRc0 := Lib.hid (show RdS wc0 k A c b s3 from ⟨⟨HRb0.out.at_.blk.but hbc (by have := HKR.out; omega), HRb0.out.at_.cap, HS0.out.but HBc0.out⟩, HRb0.out.le, HRb0.out.m5⟩)
  clear hwc hbc f0 cc0 hcv hg hbk HT4 HRa HBa HTb0 HRb0 HBb0
  go_wp2_with fail
  refine (H4.out _ HRc0.out).mono ?_
  rintro e wa1 ⟨g1, rfl, hg, hbk, hr, hb⟩
  have hcv := conv_blk hbk
  have HTb1 := Lib.hid (HTc0.out.but hb (by have := HKR.out; omega))
  have f1 := HTb1.out.frozen 34
  have cc1 := (HTb1.out.cell 34).trans (List.getElem?_eq_getElem (show 34 < (TagV.cells ⟨d, x, n, [], 0, []⟩).length by rw [TagV.len HDL.out]; decide))
  have HRb1 := Lib.hid hr
  have HBb1 := Lib.hid hb
  clear hr hb
  go_upto_region 4 with fail
  obtain ⟨wc1, hwc⟩ : ∃ wc1, wa1.setCell ⟨r, 34, none⟩ (sv o) = wc1 := ⟨_, rfl⟩
  rw [hwc]
  have HTc1 := Lib.hid (show Blk wc1 r 117 (TagV.cells ⟨d, x, n, o, 0, []⟩) from by rw [← hwc, ← tag_set3 HDL.out x 0 n [] o []]; exact HTb1.out.set 34 _)
  have hbc : But r wa1 wc1 := hwc ▸ (But.refl r wa1).set 34 _
  have HBc1 := Lib.hid ((HBc0.out.trans HBb1.out).both hbc (by have := HRR.out; have := HB2.out.size; omega))
  have HRc1 := Lib.hid (show RdS wc1 k A c b s4 from ⟨⟨HRb1.out.at_.blk.but hbc (by have := HKR.out; omega), HRb1.out.at_.cap, HS0.out.but HBc1.out⟩, HRb1.out.le, HRb1.out.m5⟩)
  clear hwc hbc f1 cc1 hcv hg hbk HTc0 HRc0 HBc0 HTb1 HRb1 HBb1
  go_wp2_with fail
  refine (H5.out _ HRc1.out).mono ?_
  rintro e wa2 ⟨rfl, hr, hb⟩
  have HTb2 := Lib.hid (HTc1.out.but hb (by have := HKR.out; omega))
  have f2 := HTb2.out.frozen 35
  have cc2 := (HTb2.out.cell 35).trans (List.getElem?_eq_getElem (show 35 < (TagV.cells ⟨d, x, n, o, 0, []⟩).length by rw [TagV.len HDL.out]; decide))
  have HRb2 := Lib.hid hr
  have HBb2 := Lib.hid hb
  clear hr hb
  go_upto_region 5 with fail
  obtain ⟨wc2, hwc⟩ : ∃ wc2, wa2.setCell ⟨r, 35, none⟩ (.int .u64 t) = wc2 := ⟨_, rfl⟩
  rw [hwc]
  have HTc2 := Lib.hid (show Blk wc2 r 117 (TagV.cells ⟨d, x, n, o, t, []⟩) from by rw [← hwc, ← tag_set4 HDL.out x 0 t n o []]; exact HTb2.out.set 35 _)
  have hbc : But r wa2 wc2 := hwc ▸ (But.refl r wa2).set 35 _
  have HBc2 := Lib.hid ((HBc1.out.trans HBb2.out).both hbc (by have := HRR.out; have := HB2.out.size; omega))
  have HRc2 := Lib.hid (show RdS wc2 k A c b s5 from ⟨⟨HRb2.out.at_.blk.but hbc (by have := HKR.out; omega), HRb2.out.at_.cap, HS0.out.but HBc2.out⟩, HRb2.out.le, HRb2.out.m5⟩)
  clear hwc hbc f2 cc2 HTc1 HRc1 HBc1 HTb2 HRb2 HBb2
  go_wp2_with fail
  refine (H6.out _ HRc2.out).mono ?_
  rintro e wa3 ⟨g3, rfl, hg, hbk, hr, hb⟩
  have hcv := conv_blk hbk
  have HTb3 := Lib.hid (HTc2.out.but hb (by have := HKR.out; omega))
  have f3 := HTb3.out.frozen 36
  have cc3 := (HTb3.out.cell 36).trans (List.getElem?_eq_getElem (show 36 < (TagV.cells ⟨d, x, n, o, t, []⟩).length by rw [TagV.len HDL.out]; decide))
  have HRb3 := Lib.hid hr
  have HBb3 := Lib.hid hb
  clear hr hb
  go_upto_region 6 with fail
  obtain ⟨wc3, hwc⟩ : ∃ wc3, wa3.setCell ⟨r, 36, none⟩ (sv y) = wc3 := ⟨_, rfl⟩
  rw [hwc]
  have HTc3 := Lib.hid (show Blk wc3 r 117 (TagV.cells ⟨d, x, n, o, t, y⟩) from by rw [← hwc, ← tag_set5 HDL.out x t n o [] y]; exact HTb3.out.set 36 _)
  have hbc : But r wa3 wc3 := hwc ▸ (But.refl r wa3).set 36 _
  have HBc3 := Lib.hid ((HBc2.out.trans HBb3.out).both hbc (by have := HRR.out; have := HB2.out.size; omega))
  have HRc3 := Lib.hid (show RdS wc3 k A c b s6 from ⟨⟨HRb3.out.at_.blk.but hbc (by have := HKR.out; omega), HRb3.out.at_.cap, HS0.out.but HBc3.out⟩, HRb3.out.le, HRb3.out.m5⟩)
  clear hwc hbc f3 cc3 hcv hg hbk HTc2 HRc2 HBc2 HTb3 HRb3 HBb3
  have HLD := Lib.hid (HTc3.out.loads 117 Tryd.isAgg117 (fun W => by rw [TagV.len HDL.out]; exact Tryd.sizeOf117 W))
  go_wp2_with (first | (with_reducible refine wpList_ld rfl 117 (.tmp 3) rfl ⟨r, 0, none⟩ rfl _ HLD.out ?_))
  go_ret
  exact ⟨rfl, HRc3.out, HBc3.out⟩
end Go.Proofs.YtfbkkcigkpffiaaDoor.St

namespace Go.Proofs.YtfbkkcigkpffiaaDoor.St
open Go Go.Lib Go.RowKit Go.ChangeMaps Go.Proofs.YtfbkkcigkpffiaaDoorW.PrintWords Go.Proofs.YtfbkkcigkpffiaaDoorW.PrintLast Go.Proofs.YtfbkkcigkpffiaaDoorW.PrintMore Go.Proofs.YtfbkkcigkpffiaaDoor.PStoreMany
set_option linter.unusedVariables false
set_option linter.unusedSimpArgs false
/-- Ids, one behind the other, till a fault is met. -/
def prl (b : List Int) : Nat → Rs → List By × Rs
  | 0, s => ([], s)
  | n + 1, s => if s.m ≠ 0 then ([], s) else ((idr b s).1 :: (prl b n (idr b s).2).1, (prl b n (idr b s).2).2)
theorem prl_len (b : List Int) : ∀ n s, (prl b n s).1.length ≤ n
  | 0, s => Nat.le_refl _
  | n + 1, s => by
    unfold prl
    split
    · exact Nat.zero_le _
    · exact Nat.succ_le_succ (prl_len b n _)
structure ComV where
  id : By
  ps : List By
  who : List Int
  tm : Int
  tx : List Int
def comr (b : List Int) (s : Rs) : ComV × Rs :=
  let a := idr b s
  let v := vr b a.2 8
  let p := prl b v.1.toNat v.2
  let o := byr b p.2 255
  let t := fx b o.2 8
  let x := byr b t.2 4096
  (⟨a.1, p.1, o.1, t.1, x.1⟩, x.2)
def comC (d : By) (v : Value) (o : List Int) (t : Int) (x : List Int) : List Value := cl d ++ [v, sv o, .int .u64 t, sv x]
theorem comC_len {d : By} (h : d.length = 32) (v : Value) (o : List Int) (t : Int) (x : List Int) : (comC d v o t x).length = 36 := by simp [comC, h]
theorem comC_one (d : By) (v : Value) (hv : v.oneCell' = true) (o : List Int) (t : Int) (x : List Int) : ∀ u ∈ comC d v o t x, u.oneCell' = true := fun u hu => by
  unfold comC at hu
  rcases List.mem_append.1 hu with hu | hu
  · obtain ⟨b, _, rfl⟩ := List.mem_map.1 hu; rfl
  · simp only [List.mem_cons, List.not_mem_nil, or_false] at hu
    rcases hu with rfl | rfl | rfl | rfl
    · exact hv
    · rfl
    · rfl
    · rfl
abbrev nilV : Value := .slice none 0 0
theorem com_lit {d : By} (hd : d.length = 32) : Value.agg (((cl d).zipIdx).foldl (fun cs x => cs.setIfInBounds x.snd x.fst) (comC zid nilV [] 0 []).toArray) = .agg (comC d nilV [] 0 []).toArray := by
  rw [fill_id hd _ (by decide)]
  congr 1
theorem com_set1 {d : By} (hd : d.length = 32) (v v' : Value) (o y : List Int) (t : Int) : (comC d v o t y).set 32 v' = comC d v' o t y := by
  simp [comC, hd, List.set_append_right]
theorem com_set2 {d : By} (hd : d.length = 32) (v : Value) (o o' y : List Int) (t : Int) : (comC d v o t y).set 33 (sv o') = comC d v o' t y := by
  simp [comC, hd, List.set_append_right]
theorem com_set3 {d : By} (hd : d.length = 32) (v : Value) (o y : List Int) (t t' : Int) : (comC d v o t y).set 34 (.int .u64 t') = comC d v o t' y := by
  simp [comC, hd, List.set_append_right]
theorem com_set4 {d : By} (hd : d.length = 32) (v : Value) (o y y' : List Int) (t : Int) : (comC d v o t y).set 35 (sv y') = comC d v o t y' := by
  simp [comC, hd, List.set_append_right]
theorem size116 : (Tryd.prog.info? 116).map (·.size) = some 36 := by kernel_rfl
theorem fill_all (z : Array Value) (l : List Value) (h : l.length = z.size) : l.zipIdx.foldl (fun cs x => cs.setIfInBounds x.snd x.fst) z = l.toArray := by
  have := fill_pre l [] z (by simp [h]) rfl
  rw [List.length_nil, Nat.zero_add, List.nil_append, List.drop_eq_nil_of_le (by rw [h, Array.length_toList]; exact Nat.le_refl _), List.append_nil] at this
  exact this
theorem com_cell {w : World} {r : Nat} {d : By} {v : Value} {o y : List Int} {t : Int} (h : Blk w r 116 (comC d v o t y)) (hd : d.length = 32) : w.cell? ⟨r, 32, none⟩ = some v := by
  rw [h.cell 32]
  unfold comC
  rw [List.getElem?_append_right (by rw [List.length_map, hd]; exact Nat.le_refl _), List.length_map, hd]
  rfl
/-- What a cell holds. -/
def peek (w : World) (a : Addr) (v : Value) : Value := (w.cell? a).getD v
theorem peek_of {w : World} {a : Addr} {u v : Value} (h : w.cell? a = some u) : w.cell? a = some (peek w a v) := by
  unfold peek
  rw [h]
  rfl
theorem peek_eq {w : World} {a : Addr} {u v : Value} (h : w.cell? a = some u) : peek w a v = u := by
  unfold peek
  rw [h]
  rfl
/-- append of one element, as a run. -/
theorem run_append_R {α : Type} (d : Kd α) {W : World} (base : Nat) (t e ty : TypeId) (z : Value) (bytes : Nat)
    (ht : Tryd.prog.underlying t = some (.slice e)) (hinfo : (Tryd.prog.info? e).map (fun i => (i.zero, i.size, i.bytes)) = some (some z, d.sz, bytes)) (hz : z.cells.size = d.sz) (hs0 : 0 < d.sz) (hb0 : 0 < bytes)
    (v : Value) (xs : List α) (p : α) (cs : List Value) (ok okp : Nat → Prop) (hp : d.M W base okp p cs) (hokp : ∀ k, okp k → ok k ∧ some k ≠ v.ownBlock) (hfresh : ∀ k, W.heap.size ≤ k → ok k)
    (HO : d.R e W base ok v xs) (hbase : base ≤ W.heap.size) (hl : (xs.length + 1) * bytes ≤ 140737488355328) :
    ∃ v1 w1, (Builtin.append_ #[t, t] ty #[v, .slice (some ⟨W.heap.size, 0, none⟩) 1 1]).run Tryd.prog (W.alloc (.cells cs.toArray e)) = .ok v1 w1 ∧ d.R e w1 base ok v1 (xs ++ [p]) ∧ W.grownBy w1 v.ownBlock ∧ (v1.ownBlock = v.ownBlock ∨ ∃ b, v1.ownBlock = some b ∧ W.heap.size ≤ b) := by
  obtain ⟨h0, inner, hown, hr⟩ := HO
  obtain ⟨i0, hi, hzz⟩ := Option.map_eq_some_iff.1 hinfo
  simp only [Prod.mk.injEq] at hzz
  obtain ⟨hz0, hz1, hz2⟩ := hzz
  have hlen : xs.length + 1 ≤ 140737488355328 := Nat.le_trans (Nat.le_mul_of_pos_right _ hb0) hl
  have hys := d.K_len (d.K_of_M hp)
  obtain ⟨v1, w1, hrun, hown1, hg, _, hat⟩ := run_append_own_at (P := Tryd.prog) (W.alloc (.cells cs.toArray e)) base t ty e i0 z d.sz bytes ht hi hz0 hz1 hz2 hz hs0 v xs.length inner (hown.alloc _) ⟨W.heap.size, 0, none⟩ 1 1 cs (by rw [hys]; simp)
    (by simpa using World.news_of_block (cs := cs.toArray) (t := e) (fr := (0, 0)) (heap_alloc_new W (.cells cs.toArray e))) (d.K_one (d.K_of_M hp)) (by simp only [maxLen]; omega) hl (by simp; omega)
  have hg' := World.grownBy.trans (World.grownBy_alloc W _ _) hg
  have hat' : v1.ownBlock = v.ownBlock ∨ ∃ b, v1.ownBlock = some b ∧ W.heap.size ≤ b := by
    rcases hat with hat | hat
    · exact .inl hat
    · exact .inr ⟨_, hat, by simp⟩
  exact ⟨v1, w1, hrun, Kd.R_appended h0 hr hp hokp hfresh hown1 hg' hat', hg', hat'⟩
theorem grown_blk {w w' : World} {r t : Nat} {cs : List Value} {row : Option Nat} (h : Blk w r t cs) (hg : w.grownBy w' row) (hne : some r ≠ row) : Blk w' r t cs := (hg.block r h.lt hne).trans h
theorem but_grown {k : Nat} {a b c : World} {row : Option Nat} (h : But k a b) (hg : b.grownBy c row) (hr : ∀ q, row = some q → a.heap.size ≤ q) : But k a c :=
  ⟨hg.os.trans h.os, hg.tape.trans h.tape, hg.output.trans h.output, Nat.le_trans h.size hg.size, fun j hj hn => (hg.block j (Nat.lt_of_lt_of_le hj h.size) (fun e => by have := hr j e.symm; omega)).trans (h.block j hj hn)⟩
theorem com_fresh {a b c r q : Nat} (h1 : a ≤ b) (h2 : r < a) (h3 : c ≤ r) (hq : b ≤ q) : c ≤ q ∧ q ≠ r := by omega
theorem com_base {a b c r : Nat} (h1 : a ≤ b) (h2 : r < a) (h3 : c ≤ r) : c ≤ b := by omega
theorem com_len {j l N : Nat} (h1 : j + 1 + l ≤ N) (h2 : N ≤ 8) : (l + 1) * 32 ≤ 140737488355328 := by omega
set_option maxRecDepth 100000 in
set_option maxHeartbeats 4000000 in
theorem com_any (er : Nat → Int) (h0 : ∀ m, er m = 0 ↔ m = 0) (k : Nat) (hk3 : 3 < k) (A : Option Addr) (c : Nat) (b : List Int) (s : Rs) (w : World) (he : Ers er w) (h : RdS w k A c b s) (hl : b.length ≤ 1000000000) (hby : ∀ y ∈ b, Byte y) :
    Calls Tryd.prog 54 #[.pointer (some ⟨k, 0, none⟩)] w fun e w' => ∃ A' c', e = .returned (.iface 116 (.agg (comC (comr b s).1.id (.slice A' (comr b s).1.ps.length c') (comr b s).1.who (comr b s).1.tm (comr b s).1.tx).toArray)) ∧ (comr b s).1.ps.length ≤ c' ∧ Kd.C kI w' A' (comr b s).1.ps.length (comr b s).1.ps ∧ RdS w' k A c b (comr b s).2 ∧ But k w w' := by
  have HBY := Lib.hid hby
  have HE := Lib.hid he
  have HER := Lib.hid h0
  have HK3 := Lib.hid hk3
  have HS0 := Lib.hid h.at_.src
  have H1 := Lib.hid (rid_any k A c b s w h hl hby)
  have HKW := Lib.hid (show k < w.heap.size from h.at_.blk.lt)
  unfold comr
  obtain ⟨d, hd⟩ : ∃ d, (idr b s).1 = d := ⟨_, rfl⟩
  obtain ⟨s1, hs1⟩ : ∃ s1, (idr b s).2 = s1 := ⟨_, rfl⟩
  have HDL := Lib.hid (show d.length = 32 from hd ▸ idv_len _)
  rw [hd, hs1] at H1
  simp only [hd, hs1]
  have hvr := vr_range (b := b) (s := s1) (most := 8) (by decide)
  obtain ⟨n, hn⟩ : ∃ n, (vr b s1 8).1 = n := ⟨_, rfl⟩
  obtain ⟨s2, hs2⟩ : ∃ s2, (vr b s1 8).2 = s2 := ⟨_, rfl⟩
  have H2 := Lib.hid (fun W (hr : RdS W k A c b s1) => var_any k A c b s1 8 W hr hl HBY.out)
  rw [hn] at hvr
  rw [hn, hs2] at H2
  rw [hn, hs2]
  obtain ⟨N, rfl⟩ := Int.eq_ofNat_of_zero_le hvr.1
  have hN8 : N ≤ 8 := by have := hvr.2; omega
  rw [Int.toNat_natCast]
  obtain ⟨ps, hps⟩ : ∃ ps, (prl b N s2).1 = ps := ⟨_, rfl⟩
  obtain ⟨s3, hs3⟩ : ∃ s3, (prl b N s2).2 = s3 := ⟨_, rfl⟩
  have HPS := Lib.hid hps
  have HS3 := Lib.hid hs3
  have HPL := Lib.hid (show ps.length ≤ 8 from by rw [← hps]; exact Nat.le_trans (prl_len b N s2) hN8)
  rw [hps, hs3]
  obtain ⟨o, ho⟩ : ∃ o, (byr b s3 255).1 = o := ⟨_, rfl⟩
  obtain ⟨s4, hs4⟩ : ∃ s4, (byr b s3 255).2 = s4 := ⟨_, rfl⟩
  have H4 := Lib.hid (fun W (hr : RdS W k A c b s3) => bytes_any k A c b s3 255 W hr hl HBY.out (by decide) (by decide))
  rw [ho, hs4] at H4
  rw [ho, hs4]
  obtain ⟨t, ht⟩ : ∃ t, (fx b s4 8).1 = t := ⟨_, rfl⟩
  obtain ⟨s5, hs5⟩ : ∃ s5, (fx b s4 8).2 = s5 := ⟨_, rfl⟩
  have H5 := Lib.hid (fun W (hr : RdS W k A c b s4) => u64_any k A c b s4 W hr hl)
  rw [ht, hs5] at H5
  rw [ht, hs5]
  obtain ⟨y, hy⟩ : ∃ y, (byr b s5 4096).1 = y := ⟨_, rfl⟩
  obtain ⟨s6, hs6⟩ : ∃ s6, (byr b s5 4096).2 = s6 := ⟨_, rfl⟩
  have H6 := Lib.hid (fun W (hr : RdS W k A c b s5) => bytes_any k A c b s5 4096 W hr hl HBY.out (by decide) (by decide))
  rw [hy, hs6] at H6
  rw [hy, hs6]
  clear h he h0 hk3 hd hs1 hby hn hs2 hps hs3 ho hs4 ht hs5 hy hs6 hvr
  try dsimp only
  go_enter Tryd.func54, Tryd.ntmps54
  go_wp2_with fail
  refine H1.out.mono ?_
  rintro e w2 ⟨rfl, hr1, hb1⟩
  have HR2 := Lib.hid hr1
  have HB2 := Lib.hid hb1
  clear hr1 hb1
  obtain ⟨w3, hw3⟩ : ∃ w3, w2.alloc (.cells (comC zid nilV [] 0 []).toArray 116) = w3 := ⟨_, rfl⟩
  have HW3 := Lib.hid hw3
  obtain ⟨r, hr⟩ : ∃ r, w2.heap.size = r := ⟨_, rfl⟩
  have HB3 := Lib.hid (show Below w2.heap.size w2 w3 from hw3 ▸ below_alloc (Below.refl _ _) _)
  have HT3 := Lib.hid (show Blk w3 r 116 (comC zid nilV [] 0 []) from hr ▸ hw3 ▸ Blk.new w2 116 _)
  have HR3 := Lib.hid (HR2.out.below HB3.out)
  have HRR := Lib.hid hr
  have HSZ3 := Lib.hid (show w3.heap.size = r + 1 from by rw [← hw3, ← hr]; simp)
  clear hw3 hr
  have HKR := Lib.hid (show k < r from by
    have h1 := HR2.out.at_.blk.lt
    have h2 := HRR.out
    omega)
  have HWR := Lib.hid (show w.heap.size ≤ r from by have := HRR.out; have := HB2.out.size; omega)
  have HTH := Lib.hid (HT3.out.there 0 (comC d nilV [] 0 []).toArray.size (by rw [List.size_toArray, comC_len HDL.out, comC_len (by decide)]; decide))
  have HSZ := Lib.hid (show (Tryd.prog.info? 116).map (·.size) = some (comC d nilV [] 0 []).toArray.size from by rw [List.size_toArray, comC_len HDL.out]; exact size116)
  have HON := Lib.hid (all_oneCell_toArray (comC_one d nilV rfl [] 0 []))
  have HLIT := Lib.hid (com_lit HDL.out)
  have HT4 := Lib.hid (show Blk (w3.setCells r 0 (comC d nilV [] 0 [])) r 116 (comC d nilV [] 0 []) from by
    have h9 := Blk.setCells (comC d nilV [] 0 []) 0 w3 _ HT3.out
    rwa [sets_all _ _ (by rw [comC_len HDL.out, comC_len (by decide)])] at h9)
  have HB4 := Lib.hid (show Below w2.heap.size w2 (w3.setCells r 0 (comC d nilV [] 0 [])) from (But.setCells (k := r) (comC d nilV [] 0 []) 0 w3 (But.of_below HB3.out)).new (by rw [HRR.out]; exact Nat.le_refl _))
  have HS4 := Lib.hid (show r < (w3.setCells r 0 (comC d nilV [] 0 [])).heap.size from HT4.out.lt)
  have hdl := HDL.out
  have hfz := fun z => fill_size (cl d) 0 z
  go_upto_region 2 with (first | ((change wpList _ _ _ _ _ (w2.alloc (.cells (comC zid nilV [] 0 []).toArray 116))); rw [HW3.out, HRR.out]; refine wpList_store_mid rfl 116 (.tmp 3) (.tmp 7) rfl r 0 (comC d nilV [] 0 []).toArray rfl HLIT.out HTH.out HSZ.out HON.out ?_))
  clear hdl hfz HLIT HTH HSZ HON HT3 HB3 HR3 HW3
  obtain ⟨w4, hw4⟩ : ∃ w4, w3.setCells r 0 (comC d nilV [] 0 []) = w4 := ⟨_, rfl⟩
  rw [hw4] at HT4 HB4 HS4
  change Code.wp _ _ _ _ (w3.setCells r 0 (comC d nilV [] 0 []))
  rw [hw4]
  have HRa := Lib.hid (HR2.out.below HB4.out)
  have HBa := Lib.hid (HB2.out.trans (But.of_below HB4.out))
  clear hw4 HB4 HSZ3
  go_wp2_with fail
  refine (H2.out _ HRa.out).mono ?_
  rintro e w5 ⟨rfl, hr5, hb5⟩
  have HR5 := Lib.hid hr5
  have HB5 := Lib.hid (HBa.out.trans hb5)
  have HT5 := Lib.hid (HT4.out.but hb5 (by have := HKR.out; omega))
  clear hr5 hb5 HRa HBa HT4
  go_wp2_with fail
  go_loopw [4] (fun v4 wr => ∃ (i : Nat) (done : List By) (A' : Option Addr) (c' : Nat) (st : Rs), i + done.length ≤ N ∧ v4 = .int .u64 i ∧ Blk wr r 116 (comC d (.slice A' done.length c') [] 0 []) ∧ Kd.R kI 33 wr w.heap.size (fun q => w.heap.size ≤ q ∧ q ≠ r) (.slice A' done.length c') done ∧ RdS wr k A c b st ∧ But k w wr ∧ done ++ (prl b i st).1 = ps ∧ (prl b i st).2 = s3) (fun v4 _ => (RowKit.intOf v4).toNat)
  case atStart => exact ⟨N, [], none, 0, s2, by simp, rfl, HT5.out, Kd.R_nil _ _ _ _ _, HR5.out, HB5.out, HPS.out, HS3.out⟩
  case round =>
    obtain ⟨i, done, A', c', st, hiN, rfl, hbt, hR, hrd, hbw, hp1, hp2⟩ := hrel
    have HT := Lib.hid hbt
    have HR := Lib.hid hR
    have HRD := Lib.hid hrd
    have HBW := Lib.hid hbw
    have HP1 := Lib.hid hp1
    have HP2 := Lib.hid hp2
    have HFA := Lib.hid (fault_any er k A c b st wr hrd (HE.out.but hbw HK3.out))
    clear hbt hR hrd hbw hp1 hp2
    by_cases hi : 0 < i
    · have hi' : (0 : Int) < (i : Int) := by omega
      obtain ⟨j, rfl⟩ : ∃ j, i = j + 1 := ⟨i - 1, by omega⟩
      by_cases hm : st.m = 0
      · have hp1 := HP1.out
        have hp2 := HP2.out
        unfold prl at hp1 hp2
        rw [if_neg (by simp [hm])] at hp1 hp2
        have HQ1 := Lib.hid hp1
        have HQ2 := Lib.hid hp2
        have hF : er st.m = 0 := (HER.out _).2 hm
        rw [hF] at HFA
        have HID := Lib.hid (fun W (hrd : RdS W k A c b st) => rid_any k A c b st W hrd hl HBY.out)
        have HDX := Lib.hid (show (idr b st).1.length = 32 from idv_len _)
        clear hp1 hp2 hF hm HP1 HP2
        obtain ⟨x, hx⟩ : ∃ x, (idr b st).1 = x := ⟨_, rfl⟩
        obtain ⟨st', hst'⟩ : ∃ s, (idr b st).2 = s := ⟨_, rfl⟩
        rw [hx] at HDX HQ1
        rw [hx, hst'] at HID
        rw [hst'] at HQ1 HQ2
        clear hx hst'
        go_wp2_with fail
        refine HFA.out.mono ?_
        rintro e w6 ⟨rfl, rfl⟩
        have HEN := Lib.hid (show (cl x).length = 32 from by rw [List.length_map]; exact HDX.out)
        have hen := HEN.out
        have HSX := Lib.hid (fun W (hb : But k wr W) => (show W.cell? ⟨r, 32, none⟩ = some (.slice A' done.length c') from by
          rw [(HT.out.but hb (by have := HKR.out; omega)).cell 32]
          unfold comC
          rw [List.getElem?_append_right (by rw [List.length_map, HDL.out]; exact Nat.le_refl _), List.length_map, HDL.out]
          rfl))
        have HRX := Lib.hid (fun W (hb : But k wr W) => (show Kd.R kI 33 W w.heap.size (fun q => w.heap.size ≤ q ∧ q ≠ r) (.slice A' done.length c') done from Kd.R_step HR.out (fun q hq hlt => hb.block q hlt (by have := hq.1; have := HKW.out; omega))))
        have HTX := Lib.hid (fun W (hb : But k wr W) => HT.out.but hb (by have := HKR.out; omega))
        have HRL := Lib.hid (show r < wr.heap.size from HT.out.lt)
        go_upto_region 5 with fail
        have hs0 := HSX.out wr (But.refl _ _)
        go_region_law
          ((first | (rw [fill_all _ _ (HEN.out.trans rfl)]; refine Kd.R_append_step kI (w0 := w7) (W := w7) w.heap.size (by rfl) (.tmp 20) (.tmp 23) 44 33 _ 32 (by rfl) Tryd.underlying44 info33 (by decide) (by decide) (by decide) (.slice A' done.length c') done x (cl x) (fun q => w.heap.size ≤ q ∧ q ≠ r) (fun _ => False) (by rfl) (by rfl) ⟨HDX.out, rfl⟩ (fun _ hk => hk.elim) (fun q hq => com_fresh hb7'.size HRL.out HWR.out hq) (HRX.out w7 hb7') (Below.refl _ _) (com_base hb7'.size HRL.out HWR.out) (com_len hiN hN8) ?_; intro v8 w8 hr8 hb8 hg8 hat8; obtain ⟨A8, c8, hv8⟩ := Kd.R_slice hr8; rw [List.length_append, List.length_singleton] at hv8; subst hv8; have ht8 := grown_blk (HTX.out w7 hb7') hg8 (fun e => ((HRX.out w7 hb7').1 r e.symm).2 rfl); have q8 := com_cell ht8 HDL.out; have f8 := ht8.frozen 32) | (rw [if_pos (by rfl)]; go_simp; go_at_call 76; (refine (HID.out _ (HRD.out.below (pw_below_drewN (Below.refl _ _) 1))).mono ?_); rintro e w7 ⟨rfl, hr7, hb7⟩; have hb7' := But.trans (But.of_below (k := k) (pw_below_drewN (Below.refl _ wr) 1)) hb7; have hs7 := HSX.out w7 hb7'; have hs7a := fun o => pw_cell_below (below_alloc (Below.refl w7.heap.size w7) o) hs7; dsimp only)))
        all_goals
          obtain ⟨w9, hw9⟩ : ∃ w9, w8.setCell ⟨r, 32, none⟩ (.slice A8 (done.length + 1) c8) = w9 := ⟨_, rfl⟩
          rw [hw9]
          have hT9 : Blk w9 r 116 (comC d (.slice A8 (done.length + 1) c8) [] 0 []) := by
            rw [← hw9, ← com_set1 HDL.out (.slice A' done.length c') (.slice A8 (done.length + 1) c8) [] [] 0]
            exact ht8.set 32 _
          have hown : ∀ q, (Value.slice A' done.length c').ownBlock = some q → w.heap.size ≤ q ∧ q ≠ r := fun q hq => HR.out.1 q hq
          have hbr : But r w8 w9 := hw9 ▸ (But.refl r w8).set 32 _
          have hb8 : But k w w8 := but_grown (HBW.out.trans hb7') hg8 (fun q hq => (hown q hq).1)
          have HB9 := Lib.hid (hb8.both hbr HWR.out)
          have HR9 := Lib.hid (show Kd.R kI 33 w9 w.heap.size (fun q => w.heap.size ≤ q ∧ q ≠ r) (.slice A8 (done.length + 1) c8) (done ++ [x]) from Kd.R_step hr8 (fun q hq hlt => hbr.block q hlt hq.2))
          have hk8 : Blk w8 k 129 _ := grown_blk hr7.at_.blk hg8 (fun e => by have := (hown k e.symm).1; have := HKW.out; omega)
          have HRD9 := Lib.hid (show RdS w9 k A c b st' from ⟨⟨hk8.but hbr (by have := HKR.out; omega), hr7.at_.cap, HS0.out.but HB9.out⟩, hr7.le, hr7.m5⟩)
          have HT9 := Lib.hid hT9
          try clear hw9
          try clear hT9
          try clear hown
          try clear hbr
          try clear hk8
          try clear hr7
          try clear hs7a
          try clear hs7
          try clear hr8
          try clear hg8
          try clear hat8
          try clear q8
          try clear f8
          try clear ht8
          try clear hb7'
          try clear hb7
          try clear hs0
          try clear hen
          go_wp2_with fail
          go_roundw
          case rel => exact ⟨j, done ++ [x], A8, c8, st', by rw [List.length_append, List.length_singleton]; omega, by go_num, by rw [List.length_append, List.length_singleton]; exact HT9.out, by rw [List.length_append, List.length_singleton]; exact HR9.out, HRD9.out, HB9.out, by rw [← HQ1.out]; simp, HQ2.out⟩
          all_goals (simp only [RowKit.intOf]; omega)
      · have hp1 := HP1.out
        have hp2 := HP2.out
        unfold prl at hp1 hp2
        rw [if_pos hm] at hp1 hp2
        rw [List.append_nil] at hp1
        have hF : (er st.m != 0) = true := by simpa using fun h => hm ((HER.out _).1 h)
        have hF2 : (er st.m == 0) = false := by simpa using fun h => hm ((HER.out _).1 h)
        obtain ⟨fe, hfe⟩ : ∃ fe, er st.m = fe := ⟨_, rfl⟩
        rw [hfe] at HFA hF hF2
        subst hp2
        subst hp1
        clear hm HP1 HP2 hfe
        go_wp2_with fail
        refine HFA.out.mono ?_
        rintro e w6 ⟨rfl, rfl⟩
        go_wp2_with fail
        refine (H4.out _ HRD.out).mono ?_
        rintro e wa0 ⟨g0, rfl, hg, hbk, hr, hb⟩
        have hcv := conv_blk hbk
        have HTb0 := Lib.hid (HT.out.but hb (by have := HKR.out; omega))
        have f0 := HTb0.out.frozen 33
        have cc0 := (HTb0.out.cell 33).trans (List.getElem?_eq_getElem (show 33 < (comC d (.slice A' done.length c') [] 0 []).length by rw [comC_len HDL.out]; decide))
        have HRb0 := Lib.hid hr
        have HBb0 := Lib.hid hb
        have HKb0 := Lib.hid (show Kd.R kI 33 wa0 w.heap.size (fun q => w.heap.size ≤ q ∧ q ≠ r) (.slice A' done.length c') done from Kd.R_step HR.out (fun q hq hlt => hb.block q hlt (by have := hq.1; have := HKW.out; omega)))
        clear hr hb
        go_upto_region 7 with fail
        obtain ⟨wc0, hwc⟩ : ∃ wc0, wa0.setCell ⟨r, 33, none⟩ (sv o) = wc0 := ⟨_, rfl⟩
        rw [hwc]
        have HTc0 := Lib.hid (show Blk wc0 r 116 (comC d (.slice A' done.length c') o 0 []) from by rw [← hwc, ← com_set2 HDL.out (.slice A' done.length c') [] o [] 0]; exact HTb0.out.set 33 _)
        have hbc : But r wa0 wc0 := hwc ▸ (But.refl r wa0).set 33 _
        have HBc0 := Lib.hid ((HBW.out.trans HBb0.out).both hbc HWR.out)
        have HRc0 := Lib.hid (show RdS wc0 k A c b s4 from ⟨⟨HRb0.out.at_.blk.but hbc (by have := HKR.out; omega), HRb0.out.at_.cap, HS0.out.but HBc0.out⟩, HRb0.out.le, HRb0.out.m5⟩)
        have HKc0 := Lib.hid (show Kd.R kI 33 wc0 w.heap.size (fun q => w.heap.size ≤ q ∧ q ≠ r) (.slice A' done.length c') done from Kd.R_step HKb0.out (fun q hq hlt => hbc.block q hlt hq.2))
        clear hwc hbc f0 cc0 hcv hg hbk HT HRD HBW HR HTb0 HRb0 HBb0 HKb0
        go_wp2_with fail
        refine (H5.out _ HRc0.out).mono ?_
        rintro e wa1 ⟨rfl, hr, hb⟩
        have HTb1 := Lib.hid (HTc0.out.but hb (by have := HKR.out; omega))
        have f1 := HTb1.out.frozen 34
        have cc1 := (HTb1.out.cell 34).trans (List.getElem?_eq_getElem (show 34 < (comC d (.slice A' done.length c') o 0 []).length by rw [comC_len HDL.out]; decide))
        have HRb1 := Lib.hid hr
        have HBb1 := Lib.hid hb
        have HKb1 := Lib.hid (show Kd.R kI 33 wa1 w.heap.size (fun q => w.heap.size ≤ q ∧ q ≠ r) (.slice A' done.length c') done from Kd.R_step HKc0.out (fun q hq hlt => hb.block q hlt (by have := hq.1; have := HKW.out; omega)))
        clear hr hb
        go_upto_region 8 with fail
        obtain ⟨wc1, hwc⟩ : ∃ wc1, wa1.setCell ⟨r, 34, none⟩ (.int .u64 t) = wc1 := ⟨_, rfl⟩
        rw [hwc]
        have HTc1 := Lib.hid (show Blk wc1 r 116 (comC d (.slice A' done.length c') o t []) from by rw [← hwc, ← com_set3 HDL.out (.slice A' done.length c') o [] 0 t]; exact HTb1.out.set 34 _)
        have hbc : But r wa1 wc1 := hwc ▸ (But.refl r wa1).set 34 _
        have HBc1 := Lib.hid ((HBc0.out.trans HBb1.out).both hbc HWR.out)
        have HRc1 := Lib.hid (show RdS wc1 k A c b s5 from ⟨⟨HRb1.out.at_.blk.but hbc (by have := HKR.out; omega), HRb1.out.at_.cap, HS0.out.but HBc1.out⟩, HRb1.out.le, HRb1.out.m5⟩)
        have HKc1 := Lib.hid (show Kd.R kI 33 wc1 w.heap.size (fun q => w.heap.size ≤ q ∧ q ≠ r) (.slice A' done.length c') done from Kd.R_step HKb1.out (fun q hq hlt => hbc.block q hlt hq.2))
        clear hwc hbc f1 cc1 HTc0 HRc0 HBc0 HKc0 HTb1 HRb1 HBb1 HKb1
        go_wp2_with fail
        refine (H6.out _ HRc1.out).mono ?_
        rintro e wa2 ⟨g2, rfl, hg, hbk, hr, hb⟩
        have hcv := conv_blk hbk
        have HTb2 := Lib.hid (HTc1.out.but hb (by have := HKR.out; omega))
        have f2 := HTb2.out.frozen 35
        have cc2 := (HTb2.out.cell 35).trans (List.getElem?_eq_getElem (show 35 < (comC d (.slice A' done.length c') o t []).length by rw [comC_len HDL.out]; decide))
        have HRb2 := Lib.hid hr
        have HBb2 := Lib.hid hb
        have HKb2 := Lib.hid (show Kd.R kI 33 wa2 w.heap.size (fun q => w.heap.size ≤ q ∧ q ≠ r) (.slice A' done.length c') done from Kd.R_step HKc1.out (fun q hq hlt => hb.block q hlt (by have := hq.1; have := HKW.out; omega)))
        clear hr hb
        go_upto_region 9 with fail
        obtain ⟨wc2, hwc⟩ : ∃ wc2, wa2.setCell ⟨r, 35, none⟩ (sv y) = wc2 := ⟨_, rfl⟩
        rw [hwc]
        have HTc2 := Lib.hid (show Blk wc2 r 116 (comC d (.slice A' done.length c') o t y) from by rw [← hwc, ← com_set4 HDL.out (.slice A' done.length c') o [] y t]; exact HTb2.out.set 35 _)
        have hbc : But r wa2 wc2 := hwc ▸ (But.refl r wa2).set 35 _
        have HBc2 := Lib.hid ((HBc1.out.trans HBb2.out).both hbc HWR.out)
        have HRc2 := Lib.hid (show RdS wc2 k A c b s6 from ⟨⟨HRb2.out.at_.blk.but hbc (by have := HKR.out; omega), HRb2.out.at_.cap, HS0.out.but HBc2.out⟩, HRb2.out.le, HRb2.out.m5⟩)
        have HKc2 := Lib.hid (show Kd.R kI 33 wc2 w.heap.size (fun q => w.heap.size ≤ q ∧ q ≠ r) (.slice A' done.length c') done from Kd.R_step HKb2.out (fun q hq hlt => hbc.block q hlt hq.2))
        clear hwc hbc f2 cc2 hcv hg hbk HTc1 HRc1 HBc1 HKc1 HTb2 HRb2 HBb2 HKb2
        have HLD := Lib.hid (HTc2.out.loads 116 Tryd.isAgg116 (fun W => by rw [comC_len HDL.out]; exact Tryd.sizeOf116 W))
        go_wp2_with (first | (with_reducible refine wpList_ld rfl 116 (.tmp 3) rfl ⟨r, 0, none⟩ rfl _ HLD.out ?_))
        go_ret
        exact ⟨A', c', rfl, (Kd.R_reads' HKc2.out).2.1, (Kd.R_reads' HKc2.out).2.2, HRc2.out, HBc2.out⟩
    · obtain rfl : i = 0 := by omega
      have hp1 := HP1.out
      have hp2 := HP2.out
      unfold prl at hp1 hp2
      rw [List.append_nil] at hp1
      subst hp2
      subst hp1
      clear HP1 HP2 HFA
      go_wp2_with fail
      refine (H4.out _ HRD.out).mono ?_
      rintro e wa0 ⟨g0, rfl, hg, hbk, hr, hb⟩
      have hcv := conv_blk hbk
      have HTb0 := Lib.hid (HT.out.but hb (by have := HKR.out; omega))
      have f0 := HTb0.out.frozen 33
      have cc0 := (HTb0.out.cell 33).trans (List.getElem?_eq_getElem (show 33 < (comC d (.slice A' done.length c') [] 0 []).length by rw [comC_len HDL.out]; decide))
      have HRb0 := Lib.hid hr
      have HBb0 := Lib.hid hb
      have HKb0 := Lib.hid (show Kd.R kI 33 wa0 w.heap.size (fun q => w.heap.size ≤ q ∧ q ≠ r) (.slice A' done.length c') done from Kd.R_step HR.out (fun q hq hlt => hb.block q hlt (by have := hq.1; have := HKW.out; omega)))
      clear hr hb
      go_upto_region 7 with fail
      obtain ⟨wc0, hwc⟩ : ∃ wc0, wa0.setCell ⟨r, 33, none⟩ (sv o) = wc0 := ⟨_, rfl⟩
      rw [hwc]
      have HTc0 := Lib.hid (show Blk wc0 r 116 (comC d (.slice A' done.length c') o 0 []) from by rw [← hwc, ← com_set2 HDL.out (.slice A' done.length c') [] o [] 0]; exact HTb0.out.set 33 _)
      have hbc : But r wa0 wc0 := hwc ▸ (But.refl r wa0).set 33 _
      have HBc0 := Lib.hid ((HBW.out.trans HBb0.out).both hbc HWR.out)
      have HRc0 := Lib.hid (show RdS wc0 k A c b s4 from ⟨⟨HRb0.out.at_.blk.but hbc (by have := HKR.out; omega), HRb0.out.at_.cap, HS0.out.but HBc0.out⟩, HRb0.out.le, HRb0.out.m5⟩)
      have HKc0 := Lib.hid (show Kd.R kI 33 wc0 w.heap.size (fun q => w.heap.size ≤ q ∧ q ≠ r) (.slice A' done.length c') done from Kd.R_step HKb0.out (fun q hq hlt => hbc.block q hlt hq.2))
      clear hwc hbc f0 cc0 hcv hg hbk HT HRD HBW HR HTb0 HRb0 HBb0 HKb0
      go_wp2_with fail
      refine (H5.out _ HRc0.out).mono ?_
      rintro e wa1 ⟨rfl, hr, hb⟩
      have HTb1 := Lib.hid (HTc0.out.but hb (by have := HKR.out; omega))
      have f1 := HTb1.out.frozen 34
      have cc1 := (HTb1.out.cell 34).trans (List.getElem?_eq_getElem (show 34 < (comC d (.slice A' done.length c') o 0 []).length by rw [comC_len HDL.out]; decide))
      have HRb1 := Lib.hid hr
      have HBb1 := Lib.hid hb
      have HKb1 := Lib.hid (show Kd.R kI 33 wa1 w.heap.size (fun q => w.heap.size ≤ q ∧ q ≠ r) (.slice A' done.length c') done from Kd.R_step HKc0.out (fun q hq hlt => hb.block q hlt (by have := hq.1; have := HKW.out; omega)))
      clear hr hb
      go_upto_region 8 with fail
      obtain ⟨wc1, hwc⟩ : ∃ wc1, wa1.setCell ⟨r, 34, none⟩ (.int .u64 t) = wc1 := ⟨_, rfl⟩
      rw [hwc]
      have HTc1 := Lib.hid (show Blk wc1 r 116 (comC d (.slice A' done.length c') o t []) from by rw [← hwc, ← com_set3 HDL.out (.slice A' done.length c') o [] 0 t]; exact HTb1.out.set 34 _)
      have hbc : But r wa1 wc1 := hwc ▸ (But.refl r wa1).set 34 _
      have HBc1 := Lib.hid ((HBc0.out.trans HBb1.out).both hbc HWR.out)
      have HRc1 := Lib.hid (show RdS wc1 k A c b s5 from ⟨⟨HRb1.out.at_.blk.but hbc (by have := HKR.out; omega), HRb1.out.at_.cap, HS0.out.but HBc1.out⟩, HRb1.out.le, HRb1.out.m5⟩)
      have HKc1 := Lib.hid (show Kd.R kI 33 wc1 w.heap.size (fun q => w.heap.size ≤ q ∧ q ≠ r) (.slice A' done.length c') done from Kd.R_step HKb1.out (fun q hq hlt => hbc.block q hlt hq.2))
      clear hwc hbc f1 cc1 HTc0 HRc0 HBc0 HKc0 HTb1 HRb1 HBb1 HKb1
      go_wp2_with fail
      refine (H6.out _ HRc1.out).mono ?_
      rintro e wa2 ⟨g2, rfl, hg, hbk, hr, hb⟩
      have hcv := conv_blk hbk
      have HTb2 := Lib.hid (HTc1.out.but hb (by have := HKR.out; omega))
      have f2 := HTb2.out.frozen 35
      have cc2 := (HTb2.out.cell 35).trans (List.getElem?_eq_getElem (show 35 < (comC d (.slice A' done.length c') o t []).length by rw [comC_len HDL.out]; decide))
      have HRb2 := Lib.hid hr
      have HBb2 := Lib.hid hb
      have HKb2 := Lib.hid (show Kd.R kI 33 wa2 w.heap.size (fun q => w.heap.size ≤ q ∧ q ≠ r) (.slice A' done.length c') done from Kd.R_step HKc1.out (fun q hq hlt => hb.block q hlt (by have := hq.1; have := HKW.out; omega)))
      clear hr hb
      go_upto_region 9 with fail
      obtain ⟨wc2, hwc⟩ : ∃ wc2, wa2.setCell ⟨r, 35, none⟩ (sv y) = wc2 := ⟨_, rfl⟩
      rw [hwc]
      have HTc2 := Lib.hid (show Blk wc2 r 116 (comC d (.slice A' done.length c') o t y) from by rw [← hwc, ← com_set4 HDL.out (.slice A' done.length c') o [] y t]; exact HTb2.out.set 35 _)
      have hbc : But r wa2 wc2 := hwc ▸ (But.refl r wa2).set 35 _
      have HBc2 := Lib.hid ((HBc1.out.trans HBb2.out).both hbc HWR.out)
      have HRc2 := Lib.hid (show RdS wc2 k A c b s6 from ⟨⟨HRb2.out.at_.blk.but hbc (by have := HKR.out; omega), HRb2.out.at_.cap, HS0.out.but HBc2.out⟩, HRb2.out.le, HRb2.out.m5⟩)
      have HKc2 := Lib.hid (show Kd.R kI 33 wc2 w.heap.size (fun q => w.heap.size ≤ q ∧ q ≠ r) (.slice A' done.length c') done from Kd.R_step HKb2.out (fun q hq hlt => hbc.block q hlt hq.2))
      clear hwc hbc f2 cc2 hcv hg hbk HTc1 HRc1 HBc1 HKc1 HTb2 HRb2 HBb2 HKb2
      have HLD := Lib.hid (HTc2.out.loads 116 Tryd.isAgg116 (fun W => by rw [comC_len HDL.out]; exact Tryd.sizeOf116 W))
      go_wp2_with (first | (with_reducible refine wpList_ld rfl 116 (.tmp 3) rfl ⟨r, 0, none⟩ rfl _ HLD.out ?_))
      go_ret
      exact ⟨A', c', rfl, (Kd.R_reads' HKc2.out).2.1, (Kd.R_reads' HKc2.out).2.2, HRc2.out, HBc2.out⟩
end Go.Proofs.YtfbkkcigkpffiaaDoor.St

namespace Go.Proofs.YtfbkkcigkpffiaaDoor.St
open Go Go.Lib Go.RowKit Go.ChangeMaps Go.Proofs.YtfbkkcigkpffiaaDoorW.PrintWords Go.Proofs.YtfbkkcigkpffiaaDoorW.PrintLast Go.Proofs.YtfbkkcigkpffiaaDoorW.PrintMore Go.Proofs.YtfbkkcigkpffiaaDoor.PStoreMany
set_option linter.unusedVariables false
set_option linter.unusedSimpArgs false
/-- A row of a tree. -/
structure Ent where
  md : Int
  nm : List Int
  id : By
def entC (x : Ent) : List Value := .int .i64 x.md :: sv x.nm :: cl x.id
theorem entC_len {x : Ent} (h : x.id.length = 32) : (entC x).length = 34 := by simp [entC, h]
theorem entC_one (x : Ent) : ∀ u ∈ entC x, u.oneCell' = true := fun u hu => by
  unfold entC at hu
  rcases List.mem_cons.1 hu with rfl | hu
  · rfl
  · rcases List.mem_cons.1 hu with rfl | hu
    · rfl
    · obtain ⟨b, _, rfl⟩ := List.mem_map.1 hu; rfl
/-- A row, by its 34 cells alone. -/
def kE : Kd Ent where
  sz := 34
  E := []
  K := fun _ x cs => x.id.length = 32 ∧ cs = entC x
  M := fun _ _ _ x cs => x.id.length = 32 ∧ cs = entC x
  K_len := fun h => by rw [h.2]; exact entC_len h.1
  K_one := fun h => by rw [h.2]; exact entC_one _
  K_below := fun _ h => h
  K_of_M := fun h => h
  M_mono := fun _ h => h
  M_bound := fun h => h
  M_move := fun _ h => h
  M_lower := fun _ h => h
theorem info135 : (Tryd.prog.info? 135).map (fun i => (i.zero, i.size, i.bytes)) = some (some (.agg (entC ⟨0, [], zid⟩).toArray), kE.sz, 56) := by kernel_rfl
/-- Rows, one behind the other, till a fault is met. -/
def trl (b : List Int) : Nat → Rs → List Ent × Rs
  | 0, s => ([], s)
  | n + 1, s => if s.m ≠ 0 then ([], s) else
    (⟨(u8r b s).1, (byr b (u8r b s).2 255).1, (idr b (byr b (u8r b s).2 255).2).1⟩ :: (trl b n (idr b (byr b (u8r b s).2 255).2).2).1, (trl b n (idr b (byr b (u8r b s).2 255).2).2).2)
theorem trl_len (b : List Int) : ∀ n s, (trl b n s).1.length ≤ n
  | 0, s => Nat.le_refl _
  | n + 1, s => by
    unfold trl
    split
    · exact Nat.zero_le _
    · exact Nat.succ_le_succ (trl_len b n _)
def treer (b : List Int) (s : Rs) : List Ent × Rs := trl b (vr b s 1024).1.toNat (vr b s 1024).2
theorem fill_off (m : Nat) : ∀ (l : List Value) (n : Nat) (z : Array Value), (l.zipIdx n).foldl (fun cs x => cs.setIfInBounds (m + x.snd) x.fst) z = (l.zipIdx (m + n)).foldl (fun cs x => cs.setIfInBounds x.snd x.fst) z
  | [], _, _ => rfl
  | x :: l, n, z => by
    rw [List.zipIdx_cons, List.foldl_cons, List.zipIdx_cons, List.foldl_cons]
    exact fill_off m l (n + 1) _
theorem ent_lit {d : By} (hd : d.length = 32) (x : Int) (y : List Int) : ((cl d).zipIdx).foldl (fun cs x => cs.setIfInBounds (2 + x.snd) x.fst) #[Value.int .i64 x, sv y, Value.int .u8 0, Value.int .u8 0, Value.int .u8 0, Value.int .u8 0, Value.int .u8 0, Value.int .u8 0, Value.int .u8 0, Value.int .u8 0, Value.int .u8 0, Value.int .u8 0, Value.int .u8 0, Value.int .u8 0, Value.int .u8 0, Value.int .u8 0, Value.int .u8 0, Value.int .u8 0, Value.int .u8 0, Value.int .u8 0, Value.int .u8 0, Value.int .u8 0, Value.int .u8 0, Value.int .u8 0, Value.int .u8 0, Value.int .u8 0, Value.int .u8 0, Value.int .u8 0, Value.int .u8 0, Value.int .u8 0, Value.int .u8 0, Value.int .u8 0, Value.int .u8 0, Value.int .u8 0] = (entC ⟨x, y, d⟩).toArray := by
  rw [fill_off]
  have h := fill_pre (cl d) [Value.int .i64 x, sv y] #[Value.int .i64 x, sv y, Value.int .u8 0, Value.int .u8 0, Value.int .u8 0, Value.int .u8 0, Value.int .u8 0, Value.int .u8 0, Value.int .u8 0, Value.int .u8 0, Value.int .u8 0, Value.int .u8 0, Value.int .u8 0, Value.int .u8 0, Value.int .u8 0, Value.int .u8 0, Value.int .u8 0, Value.int .u8 0, Value.int .u8 0, Value.int .u8 0, Value.int .u8 0, Value.int .u8 0, Value.int .u8 0, Value.int .u8 0, Value.int .u8 0, Value.int .u8 0, Value.int .u8 0, Value.int .u8 0, Value.int .u8 0, Value.int .u8 0, Value.int .u8 0, Value.int .u8 0, Value.int .u8 0, Value.int .u8 0] (by simp [hd]) rfl
  refine h.trans ?_
  simp [hd, entC]
theorem tree_base {a b c q : Nat} (h1 : a ≤ b) (h2 : b ≤ c) (hq : c ≤ q) : a ≤ q := by omega
theorem tree_len {j l N : Nat} (h1 : j + 1 + l ≤ N) (h2 : N ≤ 1024) : (l + 1) * 56 ≤ 140737488355328 := by omega
set_option maxRecDepth 100000 in
set_option maxHeartbeats 4000000 in
theorem tree_any (er : Nat → Int) (h0 : ∀ m, er m = 0 ↔ m = 0) (k : Nat) (hk3 : 3 < k) (A : Option Addr) (c : Nat) (b : List Int) (s : Rs) (w : World) (he : Ers er w) (h : RdS w k A c b s) (hl : b.length ≤ 1000000000) (hby : ∀ y ∈ b, Byte y) :
    Calls Tryd.prog 53 #[.pointer (some ⟨k, 0, none⟩)] w fun e w' => ∃ A' c', e = .returned (.iface 115 (.slice A' (treer b s).1.length c')) ∧ (treer b s).1.length ≤ c' ∧ Kd.C kE w' A' (treer b s).1.length (treer b s).1 ∧ RdS w' k A c b (treer b s).2 ∧ But k w w' := by
  have HBY := Lib.hid hby
  have HE := Lib.hid he
  have HER := Lib.hid h0
  have HK3 := Lib.hid hk3
  have HS0 := Lib.hid h.at_.src
  have HKW := Lib.hid (show k < w.heap.size from h.at_.blk.lt)
  unfold treer
  have hvr := vr_range (b := b) (s := s) (most := 1024) (by decide)
  obtain ⟨n, hn⟩ : ∃ n, (vr b s 1024).1 = n := ⟨_, rfl⟩
  obtain ⟨s2, hs2⟩ : ∃ s2, (vr b s 1024).2 = s2 := ⟨_, rfl⟩
  have H2 := Lib.hid (var_any k A c b s 1024 w h hl HBY.out)
  rw [hn] at hvr
  rw [hn, hs2] at H2
  rw [hn, hs2]
  obtain ⟨N, rfl⟩ := Int.eq_ofNat_of_zero_le hvr.1
  have hN8 : N ≤ 1024 := by have := hvr.2; omega
  rw [Int.toNat_natCast]
  obtain ⟨ps, hps⟩ : ∃ ps, (trl b N s2).1 = ps := ⟨_, rfl⟩
  obtain ⟨s3, hs3⟩ : ∃ s3, (trl b N s2).2 = s3 := ⟨_, rfl⟩
  have HPS := Lib.hid hps
  have HS3 := Lib.hid hs3
  rw [hps, hs3]
  clear h he h0 hk3 hby hn hs2 hps hs3 hvr
  go_enter Tryd.func53, Tryd.ntmps53
  go_wp2_with fail
  refine H2.out.mono ?_
  rintro e w5 ⟨rfl, hr5, hb5⟩
  have HR5 := Lib.hid hr5
  have HB5 := Lib.hid hb5
  clear hr5 hb5
  go_wp2_with fail
  go_loopw [3, 4] (fun v3 v4 wr => ∃ (i : Nat) (done : List Ent) (A' : Option Addr) (c' : Nat) (st : Rs), i + done.length ≤ N ∧ v4 = .int .u64 i ∧ v3 = .slice A' done.length c' ∧ Kd.R kE 135 wr w.heap.size (fun q => w.heap.size ≤ q) (.slice A' done.length c') done ∧ RdS wr k A c b st ∧ But k w wr ∧ done ++ (trl b i st).1 = ps ∧ (trl b i st).2 = s3) (fun _ v4 _ => (RowKit.intOf v4).toNat)
  case atStart => exact ⟨N, [], none, 0, s2, by simp, rfl, rfl, Kd.R_nil _ _ _ _ _, HR5.out, HB5.out, HPS.out, HS3.out⟩
  case round =>
    obtain ⟨i, done, A', c', st, hiN, rfl, rfl, hR, hrd, hbw, hp1, hp2⟩ := hrel
    have HR := Lib.hid hR
    have HRD := Lib.hid hrd
    have HBW := Lib.hid hbw
    have HP1 := Lib.hid hp1
    have HP2 := Lib.hid hp2
    have HFA := Lib.hid (fault_any er k A c b st wr hrd (HE.out.but hbw HK3.out))
    clear hR hrd hbw hp1 hp2
    by_cases hi : 0 < i
    · have hi' : (0 : Int) < (i : Int) := by omega
      obtain ⟨j, rfl⟩ : ∃ j, i = j + 1 := ⟨i - 1, by omega⟩
      by_cases hm : st.m = 0
      · have hp1 := HP1.out
        have hp2 := HP2.out
        unfold trl at hp1 hp2
        rw [if_neg (by simp [hm])] at hp1 hp2
        have HQ1 := Lib.hid hp1
        have HQ2 := Lib.hid hp2
        have hF : er st.m = 0 := (HER.out _).2 hm
        rw [hF] at HFA
        have HA := Lib.hid (fun W (hrd : RdS W k A c b st) => u8_any k A c b st W hrd hl)
        have hxr := u8r_range b st
        clear hp1 hp2 hF hm HP1 HP2
        obtain ⟨x, hx⟩ : ∃ x, (u8r b st).1 = x := ⟨_, rfl⟩
        obtain ⟨sa, hsa⟩ : ∃ s, (u8r b st).2 = s := ⟨_, rfl⟩
        rw [hx] at hxr
        rw [hx, hsa] at HA HQ1
        rw [hsa] at HQ2
        have HB := Lib.hid (fun W (hrd : RdS W k A c b sa) => bytes_any k A c b sa 255 W hrd hl HBY.out (by decide) (by decide))
        obtain ⟨y, hy⟩ : ∃ y, (byr b sa 255).1 = y := ⟨_, rfl⟩
        obtain ⟨sb, hsb⟩ : ∃ s, (byr b sa 255).2 = s := ⟨_, rfl⟩
        rw [hy, hsb] at HB HQ1
        rw [hsb] at HQ2
        have HC := Lib.hid (fun W (hrd : RdS W k A c b sb) => rid_any k A c b sb W hrd hl HBY.out)
        have HDZ := Lib.hid (show (idr b sb).1.length = 32 from idv_len _)
        obtain ⟨z, hz⟩ : ∃ z, (idr b sb).1 = z := ⟨_, rfl⟩
        obtain ⟨sc, hsc⟩ : ∃ s, (idr b sb).2 = s := ⟨_, rfl⟩
        rw [hz, hsc] at HC HQ1
        rw [hz] at HDZ
        rw [hsc] at HQ2
        have hx0 := hxr.1
        have hx1 := hxr.2
        clear hx hsa hy hsb hz hsc hxr
        go_wp2_with fail
        refine HFA.out.mono ?_
        rintro e w6 ⟨rfl, rfl⟩
        have HRX := Lib.hid (fun W (hb : But k wr W) => (show Kd.R kE 135 W w.heap.size (fun q => w.heap.size ≤ q) (.slice A' done.length c') done from Kd.R_step HR.out (fun q hq hlt => hb.block q hlt (by have := HKW.out; omega))))
        go_upto_region 5 with fail
        have hdz := HDZ.out
        have hwx : IntKind.i64.wrap x = x := by rw [IntWalk.i64_in _ (by omega)]
        have hfl := ent_lit HDZ.out x y
        obtain ⟨E, hE⟩ : ∃ E, entC ⟨x, y, z⟩ = E := ⟨_, rfl⟩
        have HEE := Lib.hid hE
        have HEL := Lib.hid (show E.length = 34 from hE ▸ entC_len HDZ.out)
        have hel := HEL.out
        rw [hE] at hfl
        clear hE
        go_region_law
          ((first | (rw [fill_all _ _ (HEL.out.trans rfl)]; refine Kd.R_append_step kE (w0 := w9) (W := w9) w.heap.size (by rfl) (.tmp 16) (.tmp 26) 115 135 _ 56 (by rfl) Tryd.underlying115 info135 (by decide) (by decide) (by decide) (.slice A' done.length c') done ⟨x, y, z⟩ E (fun q => w.heap.size ≤ q) (fun _ => False) (by rfl) (by rfl) ⟨HDZ.out, HEE.out.symm⟩ (fun _ hk => hk.elim) (fun q hq => tree_base HBW.out.size HB9.out.size hq) (HRX.out w9 HB9.out) (Below.refl _ _) (tree_base HBW.out.size HB9.out.size (Nat.le_refl _)) (tree_len hiN hN8) ?_; intro v8 w10 hr10 hb10 hg10 hat10; obtain ⟨A10, c10, hv10⟩ := Kd.R_slice hr10; rw [List.length_append, List.length_singleton] at hv10; subst hv10) | (rw [if_pos (by rfl)]; go_simp; go_at_call 50; (refine (HA.out _ (HRD.out.below (pw_below_drewN (Below.refl _ _) 1))).mono ?_); rintro e w7 ⟨rfl, hr7, hb7⟩; have HR7 := Lib.hid hr7; have HB7 := Lib.hid (But.trans (But.of_below (k := k) (pw_below_drewN (Below.refl _ wr) 1)) hb7); clear hr7 hb7; dsimp only) | (rw [if_pos (by rfl)]; go_simp; go_at_call 75; (refine (HB.out _ HR7.out).mono ?_); rintro e w8 ⟨g8, rfl, hg8, hbk8, hr8, hb8⟩; have HR8 := Lib.hid hr8; have HB8 := Lib.hid (HB7.out.trans hb8); have HBK8 := Lib.hid hbk8; have hcv8 := conv_blk hbk8; have HGK := Lib.hid (show g8 ≠ k from by have := HB7.out.size; have := HKW.out; have := HBW.out.size; omega); clear hr8 hb8 hbk8 hg8; dsimp only) | (rw [if_pos (by rfl)]; go_simp; go_at_call 76; (refine (HC.out _ HR8.out).mono ?_); rintro e w9 ⟨rfl, hr9, hb9⟩; have HR9 := Lib.hid hr9; have HB9 := Lib.hid (HB8.out.trans hb9); have hcv9 := conv_blk (HBK8.out.but hb9 HGK.out); clear hr9 hb9; dsimp only)))
        all_goals
          have hown : ∀ q, (Value.slice A' done.length c').ownBlock = some q → w.heap.size ≤ q := fun q hq => HR.out.1 q hq
          have HB10 := Lib.hid (show But k w w10 from but_grown (HBW.out.trans HB9.out) hg10 hown)
          have HR10 := Lib.hid hr10
          have hk10 : Blk w10 k 129 _ := grown_blk HR9.out.at_.blk hg10 (fun e => by have := hown k e.symm; have := HKW.out; omega)
          have HRD10 := Lib.hid (show RdS w10 k A c b sc from ⟨⟨hk10, HR9.out.at_.cap, HS0.out.but HB10.out⟩, HR9.out.le, HR9.out.m5⟩)
          try clear hk10
          try clear hown
          try clear hr10
          try clear hg10
          try clear hat10
          try clear hb10
          try clear hcv8
          try clear hcv9
          try clear hfl
          try clear hel
          try clear hwx
          try clear hdz
          go_wp2_with fail
          go_roundw
          case rel => exact ⟨j, done ++ [⟨x, y, z⟩], A10, c10, sc, by rw [List.length_append, List.length_singleton]; omega, by go_num, by rw [List.length_append, List.length_singleton], by rw [List.length_append, List.length_singleton]; exact HR10.out, HRD10.out, HB10.out, by rw [← HQ1.out]; simp, HQ2.out⟩
          all_goals (simp only [RowKit.intOf]; omega)
      · have hp1 := HP1.out
        have hp2 := HP2.out
        unfold trl at hp1 hp2
        rw [if_pos hm] at hp1 hp2
        rw [List.append_nil] at hp1
        have hF : (er st.m != 0) = true := by simpa using fun h => hm ((HER.out _).1 h)
        have hF2 : (er st.m == 0) = false := by simpa using fun h => hm ((HER.out _).1 h)
        obtain ⟨fe, hfe⟩ : ∃ fe, er st.m = fe := ⟨_, rfl⟩
        rw [hfe] at HFA hF hF2
        subst hp2
        subst hp1
        clear hm HP1 HP2 hfe
        go_wp2_with fail
        refine HFA.out.mono ?_
        rintro e w6 ⟨rfl, rfl⟩
        go_wp2_with fail
        go_ret
        exact ⟨A', c', rfl, (Kd.R_reads' HR.out).2.1, (Kd.R_reads' HR.out).2.2, HRD.out, HBW.out⟩
    · obtain rfl : i = 0 := by omega
      have hp1 := HP1.out
      have hp2 := HP2.out
      unfold trl at hp1 hp2
      rw [List.append_nil] at hp1
      subst hp2
      subst hp1
      clear HP1 HP2 HFA
      go_wp2_with fail
      go_ret
      exact ⟨A', c', rfl, (Kd.R_reads' HR.out).2.1, (Kd.R_reads' HR.out).2.2, HRD.out, HBW.out⟩
end Go.Proofs.YtfbkkcigkpffiaaDoor.St
