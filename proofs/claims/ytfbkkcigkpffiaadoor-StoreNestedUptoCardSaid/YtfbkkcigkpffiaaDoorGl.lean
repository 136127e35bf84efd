/- The walk of Copy, and how a set of a store's row lies. -/
import Derived.Test.YtfbkkcigkpffiaaDoorGk
import Derived.Test.YtfbkkcigkpffiaaDoorGt
import Derived.Test.YtfbkkcigkpffiaaDoorGv
namespace Go.Proofs.YtfbkkcigkpffiaaDoor.St
open Go Go.Lib Go.RowKit Go.ChangeMaps Go.Proofs.YtfbkkcigkpffiaaDoorW.PrintWords Go.Proofs.YtfbkkcigkpffiaaDoorW.PrintLast Go.Proofs.YtfbkkcigkpffiaaDoorW.PrintMore Go.Proofs.YtfbkkcigkpffiaaDoor.PStoreMany
set_option linter.unusedVariables false
set_option linter.unusedSimpArgs false
set_option maxRecDepth 100000 in
set_option maxHeartbeats 4000000 in
theorem copy_walk (b : List Int) (A : Option Addr) (c : Nat) (w : World) (hC : Kd.C kB w A b.length b) (hc : b.length ≤ c) (hl : b.length ≤ 1000000000) :
    Calls Tryd.prog 39 #[.slice A b.length c] w fun e w' => ∃ g, e = .returned (.slice (some ⟨g, 0, none⟩) b.length b.length) ∧ w.heap.size ≤ g ∧ Blk w' g 5 (b.map b8) ∧ Below w.heap.size w w' := by
  have HC := Lib.hid hC
  obtain ⟨N, hN⟩ : ∃ N, b.length = N := ⟨_, rfl⟩
  have HN := Lib.hid hN
  rw [hN] at hc hl ⊢
  obtain ⟨g, hg⟩ : ∃ g, w.heap.size = g := ⟨_, rfl⟩
  obtain ⟨i5, hi5, hz5, hs5, hby5⟩ := info_parts info5
  have hms := run_make (P := Tryd.prog) (w := w) 30 5 i5 (.int .u8 0) Tryd.underlying30 hi5 hz5 .i64 .i64 (N : Int) (N : Int) (by omega) (by omega) (by rw [hby5]; omega) (by omega)
  rw [hs5, hg, show madeCells (Value.int IntKind.u8 0).cells (Int.toNat (N : Int) * 1) = (noughts N).toArray from by
    simp [madeCells, Value.cells]
    rw [Array.ext_iff]
    simp [Nat.mod_one]] at hms
  rw [Int.toNat_natCast] at hms
  obtain ⟨w1, hw1⟩ : ∃ w1, w.alloc (.cells (noughts N).toArray 5) = w1 := ⟨_, rfl⟩
  have HB1 := Lib.hid (show Below w.heap.size w w1 from hw1 ▸ below_alloc (Below.refl _ _) _)
  have HG1 := Lib.hid (show Blk w1 g 5 (noughts N) from hg ▸ hw1 ▸ Blk.new w 5 (noughts N))
  rw [hw1] at hms
  have HG := Lib.hid hg
  clear hC hg hw1 hi5 hz5 hs5 hby5 hN
  go_enter Tryd.func39, Tryd.ntmps39
  go_upto_region 2 with (fail)
  clear hms
  have HC1 := Lib.hid (Kd.C_below HC.out HB1.out)
  have HLN := Lib.hid (show (b.map b8).length = Nat.min N N from by rw [List.length_map, HN.out]; exact (Nat.min_self N).symm)
  have HPO := Lib.hid (show 0 < (b.map b8).length → ∃ ad, A = some ad ∧ ∀ j v, (b.map b8)[j]? = some v → w1.cell? (ad.add j) = some v from fun hp => by
    rw [List.length_map] at hp
    obtain ⟨ad, ha, hcell⟩ := HC1.out.2.2 hp
    refine ⟨ad, ha, fun j v hj => ?_⟩
    rw [List.getElem?_map] at hj
    cases hx : b[j]? with
    | none => rw [hx] at hj; simp at hj
    | some x =>
      rw [hx] at hj
      obtain rfl := (by simpa using hj : _ = v)
      obtain ⟨cs, hl1, hk, hc⟩ := hcell j x hx
      have hk' : cs = [Value.int .u8 x] := hk
      subst hk'
      have := hc 0 _ rfl
      rwa [show (Kd.int .u8).sz = 1 from rfl, Nat.mul_one, Nat.add_zero] at this)
  have HFT := Lib.hid (show 0 + (b.map b8).length ≤ (noughts N).length from by simp [HN.out])
  have HON := Lib.hid (show ∀ v ∈ b.map b8, v.oneCell' = true from fun v hv => by obtain ⟨x, _, rfl⟩ := List.mem_map.1 hv; rfl)
  have HBG := Lib.hid (show w.heap.size ≤ g from by rw [HG.out]; exact Nat.le_refl _)
  have HSP := Lib.hid (show splice (noughts N) 0 (b.map b8) = b.map b8 from by simp [splice, HN.out])
  go_wp2_with (refine wpList_copy_splice rfl (.tmp 7) (.tmp 8) 30 30 rfl 5 Tryd.underlying30 (by kernel_rfl) (some ⟨g, 0, none⟩) A N N N c rfl rfl g 0 (noughts N) 5 HG1.out (b.map b8) HLN.out (fun hp => ⟨rfl, HPO.out hp⟩) HFT.out HON.out w.heap.size w HB1.out HBG.out ?_; intro w2 hg2 hb2)
  rw [HSP.out] at hg2
  have HF2 := Lib.hid hb2
  clear hb2
  go_ret
  exact ⟨g, rfl, HBG.out, hg2.out, HF2.out⟩
/-- Where the encodings of a set and its places lie. -/
structure SetAt (w : World) (A G : Option Addr) (encs : List (List Int)) (gone : List Int) : Prop where
  enc : ∀ i (h : i < encs.length), ∃ ad Ai ci, A = some ad ∧ w.cell? (ad.add i) = some (.slice Ai encs[i].length ci) ∧ encs[i].length ≤ ci ∧ Kd.C kB w Ai encs[i].length encs[i]
  gone : ∀ i (h : i < gone.length), ∃ ad, G = some ad ∧ w.cell? (ad.add i) = some (.int .i64 gone[i])
theorem SetAt.below {w w' : World} {A G : Option Addr} {encs : List (List Int)} {gone : List Int} (h : SetAt w A G encs gone) (hb : Below w.heap.size w w') : SetAt w' A G encs gone :=
  ⟨fun i hi => by
    obtain ⟨ad, Ai, ci, h1, h2, h3, h4⟩ := h.enc i hi
    exact ⟨ad, Ai, ci, h1, pw_cell_below hb h2, h3, Kd.C_below h4 hb⟩, fun i hi => by
    obtain ⟨ad, h1, h2⟩ := h.gone i hi
    exact ⟨ad, h1, pw_cell_below hb h2⟩⟩
/-- What a set may be: bytes, not too many. -/
structure SetOk (encs : List (List Int)) (gone : List Int) : Prop where
  by_ : ∀ b ∈ encs, ∀ y ∈ b, Byte y
  len : ∀ b ∈ encs, b.length ≤ 1048576
  le : encs.length ≤ 1048576
  lg : gone.length ≤ 1048576
/-- A thing held: its key is its digest, it is some. -/
def Good (bg : List Int) (rk : Nat → Int) (tb : Tb) (its : Its) : Prop := ∀ x ∈ its, x.1 = dig bg rk x.2 ∧ pe tb x.2 = 0 ∧ ∀ y ∈ x.2, Byte y
theorem iput_mem {d : By} {b : List Int} {x : By × List Int} : ∀ {its : Its}, x ∈ iput its d b → x = (d, b) ∨ x ∈ its
  | [], hx => .inl (List.mem_singleton.1 (show x ∈ [(d, b)] from hx))
  | (k, z) :: r, hx => by
    unfold iput at hx
    by_cases e : k = d
    · rw [if_pos e] at hx
      rcases List.mem_cons.1 hx with hx | hx
      · exact .inl (e ▸ hx)
      · exact .inr (List.mem_cons_of_mem _ hx)
    · rw [if_neg e] at hx
      rcases List.mem_cons.1 hx with hx | hx
      · exact .inr (hx ▸ List.mem_cons_self)
      · exact (iput_mem hx).imp id (List.mem_cons_of_mem _)
theorem Good.put {bg : List Int} {rk : Nat → Int} {tb : Tb} {b : List Int} {d : By} (hd : dig bg rk b = d) (hp : pe tb b = 0) (hb : ∀ y ∈ b, Byte y) {its : Its} (h : Good bg rk tb its) : Good bg rk tb (iput its d b) := fun x hx => by
  rcases iput_mem hx with rfl | h1
  · exact ⟨hd.symm, hp, hb⟩
  · exact h x h1
theorem Good.del {bg : List Int} {rk : Nat → Int} {tb : Tb} {its : Its} (h : Good bg rk tb its) (d : By) : Good bg rk tb (idel its d) := fun x hx => h x (del_mem hx)
theorem Good.bt {bg : List Int} {rk : Nat → Int} {tb : Tb} {its : Its} (h : Good bg rk tb its) : Bt its := fun x hx => (h x hx).2.2
theorem pe_len {tb : Tb} {b : List Int} (h : pe tb b = 0) : b.length ≤ 65536 := by
  unfold pe at h
  by_cases e : 65536 < b.length
  · rw [if_pos e] at h; cases h
  · omega
theorem len_del_le {d : By} : ∀ {its : Its}, (idel its d).length ≤ its.length
  | [] => Nat.le_refl _
  | (k, x) :: r => by
    unfold idel
    by_cases e : k = d
    · rw [if_pos e]; simp
    · rw [if_neg e]; simpa using len_del_le
theorem get_del_none {d k : By} : ∀ {its : Its}, iget its k = none → iget (idel its d) k = none
  | [], _ => rfl
  | (a, x) :: r, h => by
    unfold iget at h
    by_cases e : a = k
    · rw [if_pos e] at h; cases h
    · rw [if_neg e] at h
      unfold idel
      by_cases e2 : a = d
      · rw [if_pos e2]; exact h
      · rw [if_neg e2]; unfold iget; rw [if_neg e]; exact get_del_none h
theorem Uq.del {d : By} : ∀ {its : Its}, Uq its → Uq (idel its d)
  | [], _ => trivial
  | (k, x) :: r, h => by
    unfold idel
    by_cases e : k = d
    · rw [if_pos e]; exact h.2
    · rw [if_neg e]; exact ⟨get_del_none h.1, h.2.del⟩
/-- What a Put does, in four cases. -/
theorem putAny_cases {p : Int} {d di : By} {its its' : Its} {b : List Int} {nw : Bool} {er : Nat} (h : PutAny p d its b di nw er its') (hl : its.length < 8192) :
    (p ≠ 0 ∧ its' = its ∧ nw = false ∧ er = 40) ∨
    (p = 0 ∧ (iget its d).isSome = true ∧ its' = its ∧ nw = false ∧ er = 45) ∨
    (p = 0 ∧ (iget its d).isSome = true ∧ its' = its ∧ nw = false ∧ er = 0 ∧ di = d) ∨
    (p = 0 ∧ (iget its d).isSome = false ∧ its' = iput its d b ∧ nw = true ∧ er = 0 ∧ di = d ∧ its'.length = its.length + 1) := by
  unfold PutAny at h
  by_cases hp : p = 0
  · rw [if_pos hp] at h
    unfold PutRes at h
    cases hg : iget its d with
    | some old =>
      rw [hg] at h
      obtain ⟨h1, h2, h3⟩ := h
      rcases h3 with h3 | h3
      · exact .inr (.inr (.inl ⟨hp, rfl, h1, h2, h3.2.2, h3.2.1⟩))
      · exact .inr (.inl ⟨hp, rfl, h1, h2, h3.2⟩)
    | none =>
      rw [hg] at h
      simp only at h
      rw [if_neg (by omega)] at h
      exact .inr (.inr (.inr ⟨hp, rfl, h.1, h.2.1, h.2.2.1, h.2.2.2, by rw [h.1, len_put hg]⟩))
  · rw [if_neg hp] at h
    exact .inl ⟨hp, h.1, h.2.1, h.2.2⟩
end Go.Proofs.YtfbkkcigkpffiaaDoor.St

namespace Go.Proofs.YtfbkkcigkpffiaaDoor.St
open Go Go.Lib Go.RowKit Go.ChangeMaps Go.Proofs.YtfbkkcigkpffiaaDoorW.PrintWords Go.Proofs.YtfbkkcigkpffiaaDoorW.PrintLast Go.Proofs.YtfbkkcigkpffiaaDoorW.PrintMore Go.Proofs.YtfbkkcigkpffiaaDoor.PStoreMany
set_option linter.unusedVariables false
set_option linter.unusedSimpArgs false
theorem blk_C {w : World} {g : Nat} {l : List Int} (h : Blk w g 5 (l.map b8)) (hl : l.length ≤ 9223372036854775807) : Kd.C kB w (some ⟨g, 0, none⟩) l.length l :=
  ⟨rfl, hl, fun _ => ⟨_, rfl, fun j p hp => ⟨[b8 p], rfl, rfl, fun i u hu => by
    have hi : i = 0 := by
      have := (List.getElem?_eq_some_iff.1 hu).1
      simpa using this
    subst hi
    cases hu
    have h := h.cell j
    rw [List.getElem?_map, hp] at h
    rw [Addr.add_mid, show 0 + (j * kB.sz + 0) = j by show 0 + (j * 1 + 0) = j; omega]
    exact h⟩⟩⟩
theorem neq33 {a b : By} (ha : a.length = 32) (hb : b.length = 32) (W : World) : (binOp .neq 33 (vId a) (vId b)).run Tryd.prog W = .ok (.bool (!decide (b = a))) W := by
  have h := equal33 ha hb W
  unfold binOp
  simp only [Sem.run_bind, h, Result.andThen_ok, Sem.run_pure]
theorem num_below (a : Int) (w : World) : Calls Tryd.prog 16 #[.int .i64 a] w fun e w' => e = .returned (.int .i64 a) ∧ Below w.heap.size w w' :=
  (num_walk a w).mono fun _ _ h => ⟨h.1, h.2.below⟩
theorem len_below (ks km : Nat) (its : Its) (w : World) (h : StoreAt w ks km its) : Calls Tryd.prog 14 #[.pointer (some ⟨ks, 0, none⟩)] w fun e w' => e = .returned (.int .i64 (its.length : Int)) ∧ Below w.heap.size w w' :=
  (len_walk ks km its w h).mono fun _ _ h => ⟨h.1, by obtain ⟨_, rfl⟩ := h; exact Below.refl _ _⟩
theorem wpList_ld_w {P : Program} {ops : Array Oper} {rest : List Oper} {o : Oper} {a : Act} {w : World} {Q : Exit → Act → World → Prop} (hw : Region.wanted o (yielded ops a.tmps) = true) (ty : TypeId) (x : Operand) (ho : o.op = .load ty x)
    (ad : Addr) (hx : a.eval x = .pointer (some ad)) (v : Value) (hl : (Instr.loadAt ty (.pointer (some ad))).run P w = .ok v w)
    (h : wpList P ops Q rest (a.put o.dst v) w) : wpList P ops Q (o :: rest) a w :=
  wpList_step fun _ hK => by
    simp only [hw, if_true]
    unfold Oper.wp execOp
    simp only [ho, hx, Sem.run_bind, hl, Result.andThen_ok, Sem.run_pure]
    exact hK _ _ h
/-- A store that is filled. -/
structure Filled (bg : List Int) (rk : Nat → Int) (tb : Tb) (b0 : Nat) (w : World) (ks km : Nat) (its : Its) : Prop where
  st : StoreAt w ks km its
  ks : b0 ≤ ks
  km : b0 ≤ km
  uq : Uq its
  good : Good bg rk tb its
  len : its.length ≤ 80
def FilledO (bg : List Int) (rk : Nat → Int) (tb : Tb) (w : World) (e : Ending) (w' : World) : Prop :=
  ∃ ks km its, e = .returned (.tuple #[.pointer (some ⟨ks, 0, none⟩), .bool true]) ∧ Filled bg rk tb w.heap.size w' ks km its ∧ Below w.heap.size w w'
set_option maxRecDepth 100000 in
set_option maxHeartbeats 8000000 in
theorem filled_walk (bg : List Int) (rk : Nat → Int) (tb : Tb) (er : Nat → Int) (h0 : ∀ m, er m = 0 ↔ m = 0) (encs : List (List Int)) (gone : List Int) (NN : Int) (A G : Option Addr) (cA cG : Nat) (w : World)
    (hT : Tabs bg rk w) (hU : U8T tb w) (hE : Ers er w) (hS : SetAt w A G encs gone) (hok : SetOk encs gone) :
    Calls Tryd.prog 21 #[.agg #[.slice A encs.length cA, .slice G gone.length cG, .int .i64 NN]] w (FilledO bg rk tb w) := by
  have HT := Lib.hid hT
  have HU := Lib.hid hU
  have HE := Lib.hid hE
  have HOK := Lib.hid hok
  have HL := Lib.hid (show encs.length ≤ 1048576 from hok.le)
  have HLG := Lib.hid (show gone.length ≤ 1048576 from hok.lg)
  have HE0 := Lib.hid (show w.cell? ⟨3, 0, none⟩ = some (.int .i64 0) from by rw [hE 0 (by decide), (h0 0).2 rfl])
  obtain ⟨M, hM⟩ : ∃ M, encs.length = M := ⟨_, rfl⟩
  obtain ⟨K, hK⟩ : ∃ K, gone.length = K := ⟨_, rfl⟩
  have HM := Lib.hid hM
  have HK := Lib.hid hK
  rw [hM] at HL ⊢
  rw [hK] at HLG ⊢
  obtain ⟨w1, hw1⟩ : ∃ w1, w.alloc (.cells [Value.slice A M cA, Value.slice G K cG, Value.int .i64 NN].toArray 53) = w1 := ⟨_, rfl⟩
  have HW1 := Lib.hid hw1
  have HB1 := Lib.hid (show Below w.heap.size w w1 from hw1 ▸ below_alloc (Below.refl _ _) _)
  have HP := Lib.hid (show Blk w1 w.heap.size 53 [Value.slice A M cA, Value.slice G K cG, Value.int .i64 NN] from hw1 ▸ Blk.new w 53 _)
  have HS := Lib.hid (hS.below HB1.out)
  have HN := Lib.hid (snew_walk w1)
  have HT1 := Lib.hid (hT.below HB1.out)
  have HU1 := Lib.hid (hU.below HB1.out)
  have HE1 := Lib.hid (hE.below HB1.out)
  have HE01 := Lib.hid (pw_cell_below HB1.out HE0.out)
  clear hT hU hE hS hok hw1 hM hK HT HU HE HE0
  go_enter Tryd.func21, Tryd.ntmps21
  go_upto_region 1 with fail
  change Code.wp _ _ _ _ (w.alloc (.cells [Value.slice A M cA, Value.slice G K cG, Value.int .i64 NN].toArray 53))
  rw [HW1.out]
  go_wp2_with fail
  refine HN.out.mono ?_
  rintro e w2 ⟨ks, km, rfl, hks, hkm, hs, hb⟩
  have HKS := Lib.hid hks
  have HKM := Lib.hid hkm
  have HS2 := Lib.hid hs
  have HB2 := Lib.hid hb
  have HLV := Lib.hid (lives_walk bg rk w2 (HT1.out.below hb) (pw_cell_below hb HE01.out))
  clear hks hkm hs hb HN
  go_wp2_with fail
  refine HLV.out.mono ?_
  rintro e w3 ⟨rfl, hb3⟩
  have HB3 := Lib.hid (HB2.out.trans (hb3.mono HB2.out.size))
  have HS3 := Lib.hid (HS2.out.below hb3)
  clear hb3 HS2 HLV HB2
  have HK1 := Lib.hid (show 3 < w1.heap.size from World.block_lt_of_cell? w1 _ HE01.out)
  go_upto_block 0 with (fail)
  go_cut [] from 5 to 121 (fun wx => ∃ its, StoreAt wx ks km its ∧ Uq its ∧ its.length ≤ 80 ∧ Good bg rk tb its ∧ Below w1.heap.size w1 wx)
  case first =>
   go_wp2_with fail
   go_loopw [5] (fun v5 wr => ∃ (i : Nat) (its : Its), i ≤ M ∧ i ≤ 80 ∧ v5 = .int .i64 i ∧ StoreAt wr ks km its ∧ Uq its ∧ its.length ≤ i ∧ Good bg rk tb its ∧ Below w1.heap.size w1 wr) (fun v5 _ => 80 - (RowKit.intOf v5).toNat)
   case atStart => exact ⟨0, [], Nat.zero_le _, Nat.zero_le _, rfl, HS3.out, trivial, Nat.le_refl _, (fun x hx => by cases hx), HB3.out⟩
   case round =>
     obtain ⟨i, its, him, hi80, rfl, hs, hu, hlen, hgd, hb⟩ := hrel
     have HSr := Lib.hid hs
     have HUq := Lib.hid hu
     have HLN := Lib.hid hlen
     have HGD := Lib.hid hgd
     have HBr := Lib.hid hb
     have c0 : wr.cell? ⟨w.heap.size, 0, none⟩ = some (.slice A M cA) := (HP.out.below hb).cell 0
     clear hs hu hlen hgd hb
     by_cases hi : i < M ∧ i < 80
     · obtain ⟨hiM, hi8⟩ := hi
       have hi1 : (i : Int) < (M : Int) := by omega
       have hi2 : (i : Int) < 80 := by omega
       obtain ⟨ad, Ai, ci, rfl, hcell, hci, hCi⟩ := HS.out.enc i (by rw [HM.out]; exact hiM)
       obtain ⟨b, hbe⟩ : ∃ b, encs[i]'(by rw [HM.out]; exact hiM) = b := ⟨_, rfl⟩
       have hmem : b ∈ encs := hbe ▸ List.getElem_mem _
       rw [hbe] at hcell hci hCi
       have HBY := Lib.hid (HOK.out.by_ b hmem)
       have HBL := Lib.hid (HOK.out.len b hmem)
       have c1 : wr.cell? (ad.add i) = some (.slice Ai b.length ci) := pw_cell_below HBr.out hcell
       have HCP := Lib.hid (copy_walk b Ai ci wr (Kd.C_below hCi HBr.out) hci (by have := HBL.out; omega))
       obtain ⟨N, hN⟩ : ∃ N, b.length = N := ⟨_, rfl⟩
       have HNb := Lib.hid hN
       rw [hN] at HCP c1
       clear hmem hcell hci hCi hN hbe
       go_wp2_with fail
       refine HCP.out.mono ?_
       rintro e w4 ⟨g, rfl, hg, hblk, hb4⟩
       have HC4 := Lib.hid (blk_C hblk (by have h1 := HNb.out; have h2 := HBL.out; omega))
       have HB4 := Lib.hid (HBr.out.trans (hb4.mono HBr.out.size))
       have HB4r := Lib.hid hb4
       have HS4 := Lib.hid (HSr.out.below hb4)
       have HID4 := Lib.hid (fun W (hw : Below w4.heap.size w4 W) => id_walk bg rk b _ N W (HT1.out.below (HB4.out.trans (hw.mono HB4.out.size))) (Kd.C_below HC4.out hw) (by have := HNb.out; omega) (by have := HBL.out; omega))
       obtain ⟨d, hd⟩ : ∃ d, dig bg rk b = d := ⟨_, rfl⟩
       have HD := Lib.hid hd
       have HDL := Lib.hid (show d.length = 32 from hd ▸ dig_len bg rk b)
       rw [hd, HNb.out] at HID4
       clear hg hblk hb4 hd HCP c1 c0
       go_wp2_with fail
       refine (HID4.out w4 (Below.refl _ _)).mono ?_
       rintro e w5 ⟨rfl, hb5⟩
       have HB5 := Lib.hid hb5
       have HHA := Lib.hid (has_walk ks km its d HDL.out w5 (HS4.out.below hb5))
       obtain ⟨x, hx⟩ : ∃ x, (iget its d).isSome = x := ⟨_, rfl⟩
       have HX := Lib.hid hx
       rw [hx] at HHA
       clear hb5 hx
       go_wp2_with fail
       refine HHA.out.mono ?_
       rintro e w6 ⟨rfl, hb6⟩
       have HB6 := Lib.hid (HB5.out.trans (hb6.mono HB5.out.size))
       have HS6 := Lib.hid (HS4.out.below HB6.out)
       obtain ⟨L, hL⟩ : ∃ L, its.length = L := ⟨_, rfl⟩
       have HLL := Lib.hid hL
       have HLE := Lib.hid (len_walk ks km its w6 HS6.out)
       rw [hL] at HLE HLN
       clear hb6 hL HHA HB5
       go_wp2_with fail
       refine HLE.out.mono ?_
       rintro e w7 ⟨rfl, rfl⟩
       have HB16 := Lib.hid (HB4.out.trans (HB6.out.mono HB4.out.size))
       have HPU := Lib.hid (put_any bg rk ks km its b _ N w6 (pe tb b) (HT1.out.below HB16.out) HS6.out (Kd.C_below HC4.out HB6.out) (by have := HNb.out; omega) (by have := HBL.out; omega) pe_len HBY.out HGD.out.bt
         (fun W hw => (Parse_any tb er h0 b _ N W (HU1.out.below (HB16.out.trans (hw.mono HB16.out.size))) (HE1.out.below (HB16.out.trans (hw.mono HB16.out.size))) (Kd.C_below HC4.out (HB6.out.trans (hw.mono HB6.out.size))) (by have := HNb.out; omega) (by have := HBL.out; omega) HBY.out).mono (fun e w' h => by
           obtain ⟨cs, h1, h2, h3, h4, _⟩ := h
           exact ⟨cs, h1, h2, h3, h4⟩)))
       rw [HD.out, HNb.out] at HPU
       clear HLE
       go_wp2_with fail
       refine HPU.out.mono ?_
       rintro e w8 ⟨di, nw, erp, its', rfl, hres, hs8, hbut8, hdi, _⟩
       have HCASE := Lib.hid (putAny_cases hres (by rw [HLL.out]; have := HLN.out; omega))
       have HS8 := Lib.hid hs8
       have HB8 := Lib.hid (show Below w1.heap.size w1 w8 from ((But.of_below (k := km) HB16.out).trans hbut8).new HKM.out)
       have HC8 := Lib.hid (show Kd.C kB w8 (some ⟨g, 0, none⟩) b.length b from by
         obtain ⟨kv, hm, _⟩ := HS6.out.map
         exact C_but hm hbut8 (Kd.C_below HC4.out HB6.out))
       have HDI := Lib.hid hdi
       clear hres hs8 hbut8 hdi HPU HS6 HS4 HB6 HB4 HB4r HB16
       obtain ⟨w9, hw9⟩ : ∃ w9, w8.alloc (.cells (noughts 32).toArray 33) = w9 := ⟨_, rfl⟩
       have HW9 := Lib.hid hw9
       have HI9 := Lib.hid (show Blk w9 w8.heap.size 33 (noughts 32) from hw9 ▸ Blk.new w8 33 (noughts 32))
       have HB9 := Lib.hid (show Below w8.heap.size w8 w9 from hw9 ▸ below_alloc (Below.refl _ _) _)
       have HTH := Lib.hid (HI9.out.there 0 (cl di).toArray.size (by rw [List.size_toArray, List.length_map, HDI.out]; simp))
       have HSZ := Lib.hid (size33' HDI.out)
       have HON := Lib.hid (one33 di)
       have HI10 := Lib.hid (ret_id di HDI.out HI9.out HB9.out (Nat.le_refl _))
       clear hw9
       go_upto_region 11 with (first | ((change wpList _ _ _ _ _ (w8.alloc (.cells (noughts 32).toArray 33))); rw [HW9.out]; refine wpList_store_mid rfl 33 (.tmp 9) (.tmp 52) rfl w8.heap.size 0 (cl di).toArray rfl rfl HTH.out HSZ.out HON.out ?_))
       obtain ⟨w10, hw10⟩ : ∃ w10, w9.setCells w8.heap.size 0 (cl di) = w10 := ⟨_, rfl⟩
       rw [hw10] at HI10 ⊢
       have HB10 := Lib.hid HI10.out.2
       have HI := Lib.hid HI10.out.1
       obtain ⟨ki, hki⟩ : ∃ ki, w8.heap.size = ki := ⟨_, rfl⟩
       rw [hki] at HI ⊢
       have HB110 := Lib.hid (HB8.out.trans (HB10.out.mono HB8.out.size))
       have HPA := Lib.hid (Parse_any tb er h0 b _ N w10 (HU1.out.below HB110.out) (HE1.out.below HB110.out) (Kd.C_below HC8.out HB10.out) (by have := HNb.out; omega) (by have := HBL.out; omega) HBY.out)
       obtain ⟨p, hp⟩ : ∃ p, pe tb b = p := ⟨_, rfl⟩
       have HPE := Lib.hid hp
       unfold ParsedO at HPA
       rw [HNb.out] at HPA
       simp only [hp] at HPA HCASE
       clear hw10 hki HI10 HTH HSZ HON HI9 HB9 HW9 hp
       go_wp2_with fail
       refine HPA.out.mono ?_
       rintro e w11 ⟨cs, hcl, hco1, rfl, hb11, _, _⟩
       have HB11 := Lib.hid (HB10.out.trans (hb11.mono HB10.out.size))
       have HI11 := Lib.hid (HI.out.below hb11)
       obtain ⟨w12, hw12⟩ : ∃ w12, w11.alloc (.cells Tryd.zeroCells80 80) = w12 := ⟨_, rfl⟩
       have HW12 := Lib.hid hw12
       have HO12 := Lib.hid (show Blk w12 w11.heap.size 80 Tryd.zeroCells80.toList from hw12 ▸ new80 w11)
       have HB12 := Lib.hid (show Below w11.heap.size w11 w12 from hw12 ▸ below_alloc (Below.refl _ _) _)
       have HTH := Lib.hid (HO12.out.there 0 cs.toArray.size (by rw [List.size_toArray, hcl, zero80]; decide))
       have HSZ := Lib.hid (show (Tryd.prog.info? 80).map (·.size) = some cs.toArray.size from by rw [List.size_toArray, hcl]; exact size80)
       have HON := Lib.hid (all_oneCell_toArray hco1)
       have HB13 := Lib.hid (show Below w11.heap.size w11 (w12.setCells w11.heap.size 0 cs) from (But.setCells (k := w11.heap.size) cs 0 w12 (But.of_below HB12.out)).new (Nat.le_refl _))
       clear hb11 hcl hco1 hw12 HPA
       go_upto_region 12 with (rw [HW12.out]; refine wpList_store_mid rfl 80 (.tmp 12) (.tmp 58) rfl w11.heap.size 0 cs.toArray rfl rfl HTH.out HSZ.out HON.out ?_)
       obtain ⟨w13, hw13⟩ : ∃ w13, w12.setCells w11.heap.size 0 cs = w13 := ⟨_, rfl⟩
       rw [hw13] at HB13 ⊢
       have HB83 := Lib.hid (HB11.out.trans (HB13.out.mono HB11.out.size))
       have HI13 := Lib.hid (HI11.out.below HB13.out)
       have HS13 := Lib.hid (HS8.out.below HB83.out)
       have HB113 := Lib.hid (HB8.out.trans (HB83.out.mono HB8.out.size))
       have HC13 := Lib.hid (Kd.C_below HC8.out HB83.out)
       clear hw13 HTH HSZ HON HO12 HB12 HW12 HI11 HB11 HI HB10 HB110 HC4 HC8 HS8 HB8 HB83 HB13 HID4
       rcases HCASE.out with ⟨hp, rfl, rfl, rfl⟩ | ⟨hp, hx, rfl, rfl, rfl⟩ | ⟨hp, hx, rfl, rfl, rfl, rfl⟩ | ⟨hp, hx, rfl, rfl, rfl, rfl, hlen⟩
       · have hp1 : (p == 0) = false := by simpa using hp
         have hp2 : (p != 0) = true := by simpa using hp
         clear hp HCASE
         go_wp2_with fail
         refine (num_below p w13).mono ?_
         rintro e w14 ⟨rfl, hb14⟩
         have HB14 := Lib.hid hb14
         clear hb14
         go_wp2_with fail
         refine (num_below 40 w14).mono ?_
         rintro e w15 ⟨rfl, hb15⟩
         have HB15 := Lib.hid (HB14.out.trans (hb15.mono HB14.out.size))
         have HLE := Lib.hid (len_below ks km its' w15 (HS13.out.below HB15.out))
         rw [HLL.out] at HLE
         clear hb15
         go_wp2_with fail
         refine HLE.out.mono ?_
         rintro e w16 ⟨rfl, hb16⟩
         have HB16 := Lib.hid (HB15.out.trans (hb16.mono HB15.out.size))
         clear hb16 HLE
         go_wp2_with fail
         go_roundw
         case rel => exact ⟨i + 1, its', by omega, by omega, by go_num, HS13.out.below HB16.out, HUq.out, by rw [HLL.out]; have := HLN.out; omega, HGD.out, HB113.out.trans (HB16.out.mono HB113.out.size)⟩
         all_goals (simp only [RowKit.intOf]; omega)
       · obtain rfl : x = true := HX.out.symm.trans hx
         obtain rfl : p = 0 := hp
         clear hx HCASE
         go_wp2_with fail
         refine (num_below 0 w13).mono ?_
         rintro e w14 ⟨rfl, hb14⟩
         have HB14 := Lib.hid hb14
         clear hb14
         go_wp2_with fail
         refine (num_below 45 w14).mono ?_
         rintro e w15 ⟨rfl, hb15⟩
         have HB15 := Lib.hid (HB14.out.trans (hb15.mono HB14.out.size))
         clear hb15
         go_wp2_with fail
         go_roundw
         case rel => exact ⟨i + 1, its', by omega, by omega, by go_num, HS13.out.below HB15.out, HUq.out, by rw [HLL.out]; have := HLN.out; omega, HGD.out, HB113.out.trans (HB15.out.mono HB113.out.size)⟩
         all_goals (simp only [RowKit.intOf]; omega)
       · obtain rfl : x = true := HX.out.symm.trans hx
         obtain rfl : p = 0 := hp
         clear hx HCASE
         go_wp2_with fail
         refine (num_below 0 w13).mono ?_
         rintro e w14 ⟨rfl, hb14⟩
         have HB14 := Lib.hid hb14
         clear hb14
         go_wp2_with fail
         refine (num_below 0 w14).mono ?_
         rintro e w15 ⟨rfl, hb15⟩
         have HB15 := Lib.hid (HB14.out.trans (hb15.mono HB14.out.size))
         clear hb15
         have HB115 := Lib.hid (HB113.out.trans (HB15.out.mono HB113.out.size))
         have HS15 := Lib.hid (HS13.out.below HB15.out)
         have HI15 := Lib.hid (HI13.out.below HB15.out)
         have HNM := Lib.hid (fun W (hw : Below w15.heap.size w15 W) => num_below 0 W)
         have HID := Lib.hid (fun W (hw : Below w15.heap.size w15 W) => id_walk bg rk b _ N W (HT1.out.below (HB115.out.trans (hw.mono HB115.out.size))) (Kd.C_below HC13.out (HB15.out.trans (hw.mono HB15.out.size))) (by have := HNb.out; omega) (by have := HBL.out; omega))
         rw [HD.out, HNb.out] at HID
         have HHA := Lib.hid (fun W (hw : Below w15.heap.size w15 W) => has_walk ks km _ di HDL.out W (HS15.out.below hw))
         have HLE := Lib.hid (fun W (hw : Below w15.heap.size w15 W) => len_below ks km _ W (HS15.out.below hw))
         have hnq : ∀ W, (binOp .neq 33 (vId di) (vId di)).run Tryd.prog W = .ok (.bool false) W := fun W => by rw [neq33 HDL.out HDL.out, decide_eq_true rfl]; rfl
         have hgd := fun (a b : Operand) => guard33 .neq a b di di
         have HL1 := Lib.hid (fun w' (h : Below w15.heap.size w15 w') => (HI15.out.below h).loads 33 Tryd.isAgg33 (fun W => by rw [List.length_map, HDL.out]; exact Tryd.sizeOf33 W))
         rw [HLL.out] at HLE
         rw [HX.out] at HHA
         have q1 : (L : Int) ≠ (L : Int) + 1 := by omega
         have q2 : ((L : Int) == (L : Int) + 1) = false := by simpa using q1
         have q3 : ((L : Int) != (L : Int) + 1) = true := by simpa using q1
         have q4 : IntKind.i64.wrap ((L : Int) + 1) = (L : Int) + 1 := IntWalk.i64_in _ (by have := HLN.out; omega)
         clear HI13 HI15 HS13 HC13
         go_upto_region 16 with fail
         refine wp_region_cls (by kernel_rfl) (by kernel_rfl) ?_
         repeat (first | go_big_quiet_skip | (go_big_quiet_want; refine quiet_ld 33 (.tmp 9) rfl ⟨ki, 0, none⟩ rfl (vId di) HL1.out ?_; (try simp only [Act.put, List.setIfInBounds_toArray, List.set_cons_zero, List.set_cons_succ]); go_big_quiet_on) | go_big_quiet_step (first | refine cls_call (HNM.out _ (Cls.below _)) | refine cls_call (HID.out _ (Cls.below _)) | refine cls_call (HHA.out _ (Cls.below _)) | refine cls_call (HLE.out _ (Cls.below _))))
         refine wpQuiet_nil ?_
         rintro wy ⟨q, rfl⟩
         have HB16 := Lib.hid q.below
         obtain ⟨w16, hw16⟩ : ∃ w16, q.at = w16 := ⟨_, rfl⟩
         rw [hw16] at HB16 ⊢
         clear hw16 q HNM HID HHA HLE HL1
         go_wp2_with fail
         go_roundw
         case rel => exact ⟨i + 1, its', by omega, by omega, by go_num, HS15.out.below HB16.out, HUq.out, by rw [HLL.out]; have := HLN.out; omega, HGD.out, HB115.out.trans (HB16.out.mono HB115.out.size)⟩
         all_goals (simp only [RowKit.intOf]; omega)
       · obtain rfl : x = false := HX.out.symm.trans hx
         obtain rfl : p = 0 := hp
         clear hx HCASE
         go_wp2_with fail
         refine (num_below 0 w13).mono ?_
         rintro e w14 ⟨rfl, hb14⟩
         have HB14 := Lib.hid hb14
         clear hb14
         go_wp2_with fail
         refine (num_below 0 w14).mono ?_
         rintro e w15 ⟨rfl, hb15⟩
         have HB15 := Lib.hid (HB14.out.trans (hb15.mono HB14.out.size))
         clear hb15
         have HB115 := Lib.hid (HB113.out.trans (HB15.out.mono HB113.out.size))
         have HS15 := Lib.hid (HS13.out.below HB15.out)
         have HI15 := Lib.hid (HI13.out.below HB15.out)
         have HNM := Lib.hid (fun W (hw : Below w15.heap.size w15 W) => num_below 0 W)
         have HID := Lib.hid (fun W (hw : Below w15.heap.size w15 W) => id_walk bg rk b _ N W (HT1.out.below (HB115.out.trans (hw.mono HB115.out.size))) (Kd.C_below HC13.out (HB15.out.trans (hw.mono HB15.out.size))) (by have := HNb.out; omega) (by have := HBL.out; omega))
         rw [HD.out, HNb.out] at HID
         have HHA := Lib.hid (fun W (hw : Below w15.heap.size w15 W) => has_walk ks km _ di HDL.out W (HS15.out.below hw))
         have HLE := Lib.hid (fun W (hw : Below w15.heap.size w15 W) => len_below ks km _ W (HS15.out.below hw))
         have hnq : ∀ W, (binOp .neq 33 (vId di) (vId di)).run Tryd.prog W = .ok (.bool false) W := fun W => by rw [neq33 HDL.out HDL.out, decide_eq_true rfl]; rfl
         have hgd := fun (a b : Operand) => guard33 .neq a b di di
         have HL1 := Lib.hid (fun w' (h : Below w15.heap.size w15 w') => (HI15.out.below h).loads 33 Tryd.isAgg33 (fun W => by rw [List.length_map, HDL.out]; exact Tryd.sizeOf33 W))
         have HGP := Lib.hid (show (iget (iput its di b) di).isSome = true from by rw [get_put]; rfl)
         rw [HGP.out] at HHA
         rw [hlen, HLL.out] at HLE
         have HLP := Lib.hid (show (iput its di b).length = L + 1 from by rw [hlen, HLL.out])
         have HGN := Lib.hid (Good.put HD.out HPE.out HBY.out HGD.out)
         have q0 : (((L + 1 : Nat)) : Int) = (L : Int) + 1 := by omega
         rw [q0] at HLE
         have q1 : (L : Int) + 1 ≠ (L : Int) := by omega
         have q2 : ((L : Int) + 1 == (L : Int)) = false := by simpa using q1
         have q3 : ((L : Int) + 1 != (L : Int)) = true := by simpa using q1
         have q4 : IntKind.i64.wrap ((L : Int) + 1) = (L : Int) + 1 := IntWalk.i64_in _ (by have := HLN.out; omega)
         clear hlen
         clear HI13 HI15 HS13 HC13
         go_upto_region 16 with fail
         refine wp_region_cls (by kernel_rfl) (by kernel_rfl) ?_
         repeat (first | go_big_quiet_skip | (go_big_quiet_want; refine quiet_ld 33 (.tmp 9) rfl ⟨ki, 0, none⟩ rfl (vId di) HL1.out ?_; (try simp only [Act.put, List.setIfInBounds_toArray, List.set_cons_zero, List.set_cons_succ]); go_big_quiet_on) | go_big_quiet_step (first | refine cls_call (HNM.out _ (Cls.below _)) | refine cls_call (HID.out _ (Cls.below _)) | refine cls_call (HHA.out _ (Cls.below _)) | refine cls_call (HLE.out _ (Cls.below _))))
         refine wpQuiet_nil ?_
         rintro wy ⟨q, rfl⟩
         have HB16 := Lib.hid q.below
         obtain ⟨w16, hw16⟩ : ∃ w16, q.at = w16 := ⟨_, rfl⟩
         rw [hw16] at HB16 ⊢
         clear hw16 q HNM HID HHA HLE HL1
         go_wp2_with fail
         go_roundw
         case rel => exact ⟨i + 1, iput its di b, by omega, by omega, by go_num, HS15.out.below HB16.out, HUq.out.put, by rw [HLP.out]; have := HLN.out; omega, HGN.out, HB115.out.trans (HB16.out.mono HB115.out.size)⟩
         all_goals (simp only [RowKit.intOf]; omega)
     · have hfin : M ≤ i ∨ (i < M ∧ 80 ≤ i) := by omega
       have HF0 := Lib.hid (show its.length ≤ 80 by have := HLN.out; omega)
       rcases hfin with h1 | ⟨h1, h2⟩
       · have q1 : ¬ ((i : Int) < (M : Int)) := by omega
         go_wp2_with fail
         go_meet
         case rel => exact ⟨its, HSr.out, HUq.out, HF0.out, HGD.out, HBr.out⟩
       · have q1 : (i : Int) < (M : Int) := by omega
         have q2 : ¬ ((i : Int) < 80) := by omega
         go_wp2_with fail
         go_meet
         case rel => exact ⟨its, HSr.out, HUq.out, HF0.out, HGD.out, HBr.out⟩
  case rest =>
    obtain ⟨its, hs, hu, hlen, hgd, hb⟩ := hcut
    obtain ⟨w4, rfl⟩ : ∃ w4, w4 = wc := ⟨_, rfl⟩
    have HS4 := Lib.hid hs
    have HU4 := Lib.hid hu
    have HL4 := Lib.hid hlen
    have HG4 := Lib.hid hgd
    have HB4 := Lib.hid hb
    clear hs hu hlen hgd hb HS3 HB3
    go_wp2_with fail
    go_loopw [14] (fun v14 wr => ∃ (j : Nat) (its : Its), j ≤ K ∧ j ≤ 80 ∧ v14 = .int .i64 j ∧ StoreAt wr ks km its ∧ Uq its ∧ its.length ≤ 80 ∧ Good bg rk tb its ∧ Below w1.heap.size w1 wr) (fun v14 _ => 80 - (RowKit.intOf v14).toNat)
    case atStart => exact ⟨0, its, Nat.zero_le _, Nat.zero_le _, rfl, HS4.out, HU4.out, HL4.out, HG4.out, HB4.out⟩
    case round =>
      clear HS4 HU4 HL4 HG4 HB4
      obtain ⟨j, its, hjk, hj80, rfl, hs, hu, hlen, hgd, hb⟩ := hrel
      have HSr := Lib.hid hs
      have HUq := Lib.hid hu
      have HLN := Lib.hid hlen
      have HGD := Lib.hid hgd
      have HBr := Lib.hid hb
      have c0 : wr.cell? ⟨w.heap.size, 0, none⟩ = some (.slice A M cA) := (HP.out.below hb).cell 0
      have c1 : wr.cell? ⟨w.heap.size, 1, none⟩ = some (.slice G K cG) := (HP.out.below hb).cell 1
      clear hs hu hlen hgd hb
      by_cases hj : j < K ∧ j < 80 ∧ 0 < M
      · obtain ⟨hjK, hj8, hM0⟩ := hj
        have hj1 : (j : Int) < (K : Int) := by omega
        have hj2 : (j : Int) < 80 := by omega
        have hM1 : (0 : Int) < (M : Int) := by omega
        obtain ⟨gd, rfl, hgc⟩ := HS.out.gone j (by rw [HK.out]; exact hjK)
        obtain ⟨gn, hgn⟩ : ∃ gn, gone[j]'(by rw [HK.out]; exact hjK) = gn := ⟨_, rfl⟩
        rw [hgn] at hgc
        obtain ⟨m, hm, hin⟩ := into_any gn M hM0 (by have := HL.out; omega)
        obtain ⟨ad, Ai, ci, rfl, hcell, hci, hCi⟩ := HS.out.enc m (by rw [HM.out]; exact hm)
        obtain ⟨b, hbe⟩ : ∃ b, encs[m]'(by rw [HM.out]; exact hm) = b := ⟨_, rfl⟩
        have hmem : b ∈ encs := hbe ▸ List.getElem_mem _
        rw [hbe] at hcell hci hCi
        have HBY := Lib.hid (HOK.out.by_ b hmem)
        have HBL := Lib.hid (HOK.out.len b hmem)
        have c3 : wr.cell? (ad.add m) = some (.slice Ai b.length ci) := pw_cell_below HBr.out hcell
        have c2 : wr.cell? (gd.add j) = some (.int .i64 gn) := pw_cell_below HBr.out hgc
        have HIN := Lib.hid hin
        have HID := Lib.hid (fun W (hw : Below wr.heap.size wr W) => id_walk bg rk b _ ci W (HT1.out.below (HBr.out.trans (hw.mono HBr.out.size))) (Kd.C_below hCi (HBr.out.trans (hw.mono HBr.out.size))) hci (by have := HBL.out; omega))
        obtain ⟨d, hd⟩ : ∃ d, dig bg rk b = d := ⟨_, rfl⟩
        have HDL := Lib.hid (show d.length = 32 from hd ▸ dig_len bg rk b)
        obtain ⟨N, hN⟩ : ∃ N, b.length = N := ⟨_, rfl⟩
        rw [hd, hN] at HID
        have HID := Lib.hid (fun W (hw : Below wr.heap.size wr W) => (HID.out W hw).mono (fun e w' h => (⟨h.1, hw.trans (h.2.mono hw.size), h.2⟩ : e = .returned (vId d) ∧ Below wr.heap.size wr w' ∧ Below W.heap.size W w')))
        rw [hN] at c3
        have HIO := Lib.hid (fun W (hw : Below wr.heap.size wr W) => (satchellaw4_into.calls gn M m W HIN.out).mono (fun e w' h => (⟨h.1, hw.trans (h.2.below.mono hw.size), h.2.below⟩ : e = .returned (.int .i64 (m : Int)) ∧ Below wr.heap.size wr w' ∧ Below W.heap.size W w')))
        have HSX := Lib.hid (fun W (hw : Below wr.heap.size wr W) => (⟨pw_cell_below hw c0, pw_cell_below hw c1, pw_cell_below hw c2, pw_cell_below hw c3, hw⟩ : W.cell? ⟨w.heap.size, 0, none⟩ = some (.slice (some ad) M cA) ∧ W.cell? ⟨w.heap.size, 1, none⟩ = some (.slice (some gd) K cG) ∧ W.cell? (gd.add j) = some (.int .i64 gn) ∧ W.cell? (ad.add m) = some (.slice Ai N ci) ∧ Below wr.heap.size wr W))
        clear hmem hcell hci hCi hN hbe hd hgc hgn hin
        have qm0 : (0 : Int) ≤ (m : Int) := by omega
        have qm1 : (m : Int) < (M : Int) := by omega
        have qj0 : (0 : Int) ≤ (j : Int) := by omega
        have HNB := Lib.hid (show ∀ W : World, Blk (W.alloc (Obj.cells #[Value.int IntKind.u8 0, Value.int IntKind.u8 0, Value.int IntKind.u8 0, Value.int IntKind.u8 0, Value.int IntKind.u8 0, Value.int IntKind.u8 0, Value.int IntKind.u8 0, Value.int IntKind.u8 0, Value.int IntKind.u8 0, Value.int IntKind.u8 0, Value.int IntKind.u8 0, Value.int IntKind.u8 0, Value.int IntKind.u8 0, Value.int IntKind.u8 0, Value.int IntKind.u8 0, Value.int IntKind.u8 0, Value.int IntKind.u8 0, Value.int IntKind.u8 0, Value.int IntKind.u8 0, Value.int IntKind.u8 0, Value.int IntKind.u8 0, Value.int IntKind.u8 0, Value.int IntKind.u8 0, Value.int IntKind.u8 0, Value.int IntKind.u8 0, Value.int IntKind.u8 0, Value.int IntKind.u8 0, Value.int IntKind.u8 0, Value.int IntKind.u8 0, Value.int IntKind.u8 0, Value.int IntKind.u8 0, Value.int IntKind.u8 0] 33)) W.heap.size 33 (noughts 32) from fun W => Blk.new W 33 (noughts 32))
        have HND := Lib.hid (show ∀ W : World, Blk (W.alloc (Obj.cells #[Value.int IntKind.u8 0, Value.int IntKind.u8 0, Value.int IntKind.u8 0, Value.int IntKind.u8 0, Value.int IntKind.u8 0, Value.int IntKind.u8 0, Value.int IntKind.u8 0, Value.int IntKind.u8 0, Value.int IntKind.u8 0, Value.int IntKind.u8 0, Value.int IntKind.u8 0, Value.int IntKind.u8 0, Value.int IntKind.u8 0, Value.int IntKind.u8 0, Value.int IntKind.u8 0, Value.int IntKind.u8 0, Value.int IntKind.u8 0, Value.int IntKind.u8 0, Value.int IntKind.u8 0, Value.int IntKind.u8 0, Value.int IntKind.u8 0, Value.int IntKind.u8 0, Value.int IntKind.u8 0, Value.int IntKind.u8 0, Value.int IntKind.u8 0, Value.int IntKind.u8 0, Value.int IntKind.u8 0, Value.int IntKind.u8 0, Value.int IntKind.u8 0, Value.int IntKind.u8 0, Value.int IntKind.u8 0, Value.int IntKind.u8 0] 33)).drew W.heap.size 33 (noughts 32) from fun W => Blk.new W 33 (noughts 32))
        have HFT := Lib.hid (show 0 + (cl d).length ≤ (noughts 32).length from by rw [List.length_map, HDL.out]; simp)
        have hi33 : (Tryd.prog.info? 33).map (·.size) = some (cl d).length := by rw [List.length_map, HDL.out]; exact size33
        have hon : ∀ v ∈ cl d, v.oneCell' = true := fun v hv => by obtain ⟨x, _, rfl⟩ := List.mem_map.1 hv; rfl
        have hu33 := Tryd.underlying33
        go_upto_region 21 with fail
        go_cut [15] from 140 to 153 (fun v15 wx => ∃ kq, v15 = .pointer (some ⟨kq, 0, none⟩) ∧ Blk wx kq 33 (cl d) ∧ Below wr.heap.size wr wx)
        case first =>
          go_region_held3 (fun w' => w'.cell? ⟨w.heap.size, 0, none⟩ = some (.slice (some ad) M cA) ∧ w'.cell? ⟨w.heap.size, 1, none⟩ = some (.slice (some gd) K cG) ∧ w'.cell? (gd.add j) = some (.int .i64 gn) ∧ w'.cell? (ad.add m) = some (.slice Ai N ci) ∧ Below wr.heap.size wr w')
            (first | assumption | exact HSX.out _ hf.2 | exact HSX.out _ hf2 | exact HSX.out _ (pw_below_drewN (Below.refl _ _) 1) | exact HSX.out _ (by assumption) | exact HSX.out _ (below_alloc (And.right (And.right (And.right (And.right (by assumption))))) _) | exact HSX.out _ (below_alloc (pw_below_drewN (Below.refl _ _) 1) _))
            (first | (go_at_call 11; (refine (HIO.out _ (And.right (And.right (And.right (And.right (by assumption)))))).mono ?_); rintro e wx ⟨rfl, hbx, hbx2⟩; try (first | have hk3 := (HNB.out _).below hbx2 | have hk3 := (HND.out _).below hbx2)) | (go_at_call 13; (refine (HID.out _ (And.right (And.right (And.right (And.right (by assumption)))))).mono ?_); rintro e wy ⟨rfl, hby, hby2⟩; first | (have hf := ret_id d HDL.out (hk3.below hby2) hby (Nat.le_refl _); have ht := (hk3.below hby2).there 0 (cl d).length HFT.out) | (have hk := (HNB.out _).below hby2; have hf := ret_id d HDL.out hk hby hbx.size; have ht := hk.there 0 (cl d).length HFT.out) | (have hk := HNB.out wy; have hf : Blk ((wy.alloc (Obj.cells #[Value.int IntKind.u8 0, Value.int IntKind.u8 0, Value.int IntKind.u8 0, Value.int IntKind.u8 0, Value.int IntKind.u8 0, Value.int IntKind.u8 0, Value.int IntKind.u8 0, Value.int IntKind.u8 0, Value.int IntKind.u8 0, Value.int IntKind.u8 0, Value.int IntKind.u8 0, Value.int IntKind.u8 0, Value.int IntKind.u8 0, Value.int IntKind.u8 0, Value.int IntKind.u8 0, Value.int IntKind.u8 0, Value.int IntKind.u8 0, Value.int IntKind.u8 0, Value.int IntKind.u8 0, Value.int IntKind.u8 0, Value.int IntKind.u8 0, Value.int IntKind.u8 0, Value.int IntKind.u8 0, Value.int IntKind.u8 0, Value.int IntKind.u8 0, Value.int IntKind.u8 0, Value.int IntKind.u8 0, Value.int IntKind.u8 0, Value.int IntKind.u8 0, Value.int IntKind.u8 0, Value.int IntKind.u8 0, Value.int IntKind.u8 0] 33)).setCells wy.heap.size 0 (cl d)) wy.heap.size 33 (cl d) ∧ Below wr.heap.size wr ((wy.alloc (Obj.cells #[Value.int IntKind.u8 0, Value.int IntKind.u8 0, Value.int IntKind.u8 0, Value.int IntKind.u8 0, Value.int IntKind.u8 0, Value.int IntKind.u8 0, Value.int IntKind.u8 0, Value.int IntKind.u8 0, Value.int IntKind.u8 0, Value.int IntKind.u8 0, Value.int IntKind.u8 0, Value.int IntKind.u8 0, Value.int IntKind.u8 0, Value.int IntKind.u8 0, Value.int IntKind.u8 0, Value.int IntKind.u8 0, Value.int IntKind.u8 0, Value.int IntKind.u8 0, Value.int IntKind.u8 0, Value.int IntKind.u8 0, Value.int IntKind.u8 0, Value.int IntKind.u8 0, Value.int IntKind.u8 0, Value.int IntKind.u8 0, Value.int IntKind.u8 0, Value.int IntKind.u8 0, Value.int IntKind.u8 0, Value.int IntKind.u8 0, Value.int IntKind.u8 0, Value.int IntKind.u8 0, Value.int IntKind.u8 0, Value.int IntKind.u8 0] 33)).setCells wy.heap.size 0 (cl d)) := ret_id d HDL.out hk (below_alloc hby _) hby.size; obtain ⟨hf1, hf2⟩ := hf; have ht := hk.there 0 (cl d).length HFT.out)))
          all_goals
            go_wp2_with fail
            go_meet
            case rel => first | exact ⟨_, rfl, hf⟩ | exact ⟨_, rfl, hf1, hf2⟩
        case rest =>
          obtain ⟨kq, rfl, hblk, hbq⟩ := hcut
          obtain ⟨w5, rfl⟩ : ∃ w5, w5 = wc := ⟨_, rfl⟩
          have HB5 := Lib.hid hbq
          have HI5 := Lib.hid hblk
          have HS5 := Lib.hid (HSr.out.below hbq)
          have HL1 := Lib.hid (fun w' (h : Below w5.heap.size w5 w') => (HI5.out.below h).loads 33 Tryd.isAgg33 (fun W => by rw [List.length_map, HDL.out]; exact Tryd.sizeOf33 W))
          have HNE := Lib.hid (show kq ≠ km from by
            obtain ⟨kv, hm, _⟩ := HS5.out.map
            exact hm.ne (p := ⟨kq, 0, none⟩) ((HI5.out.cell 0).trans (show (cl d)[0]? = some ((cl d)[0]'(by rw [List.length_map, HDL.out]; decide)) from List.getElem?_eq_getElem _)))
          have HHA := Lib.hid (has_walk ks km its d HDL.out w5 HS5.out)
          obtain ⟨x, hx⟩ : ∃ x, (iget its d).isSome = x := ⟨_, rfl⟩
          have HX := Lib.hid hx
          rw [hx] at HHA
          clear hblk hbq hx c0 c1 c2 c3 HIO HSX HNB HND HFT hi33 hon hu33 HID
          go_wp2_with (with_reducible refine wpList_ld rfl 33 (.tmp 15) rfl ⟨kq, 0, none⟩ rfl _ (HL1.out _ (Below.refl _ _)) ?_)
          refine HHA.out.mono ?_
          rintro e w6 ⟨rfl, hb6⟩
          have HB6 := Lib.hid hb6
          have HS6 := Lib.hid (HS5.out.below hb6)
          have HRM := Lib.hid (remove_walk ks km its d HDL.out w6 HS6.out)
          rw [HX.out] at HRM
          clear hb6 HHA
          go_wp2_with (with_reducible refine wpList_ld rfl 33 (.tmp 15) rfl ⟨kq, 0, none⟩ rfl _ (HL1.out _ HB6.out) ?_)
          refine HRM.out.mono ?_
          rintro e w7 ⟨rfl, hs7, hb7⟩
          have HS7 := Lib.hid hs7
          have HI7 := Lib.hid ((HI5.out.below HB6.out).but hb7 HNE.out)
          have HB7 := Lib.hid (show Below w1.heap.size w1 w7 from ((But.of_below (k := km) (HBr.out.trans ((HB5.out.trans (HB6.out.mono HB5.out.size)).mono HBr.out.size))).trans hb7).new HKM.out)
          have HL7 := Lib.hid (HI7.out.loads 33 Tryd.isAgg33 (fun W => by rw [List.length_map, HDL.out]; exact Tryd.sizeOf33 W))
          have HH7 := Lib.hid (has_walk ks km _ d HDL.out w7 HS7.out)
          rw [get_del HUq.out] at HH7
          have HLD := Lib.hid (show (idel its d).length ≤ 80 from Nat.le_trans len_del_le HLN.out)
          clear hs7 hb7 HRM HL1
          cases x
          all_goals
            go_wp2_with (refine wpList_ld_w (by rfl) 33 (.tmp 15) rfl ⟨kq, 0, none⟩ rfl _ HL7.out ?_)
            refine HH7.out.mono ?_
            rintro e w8 ⟨rfl, hb8⟩
            have HB8 := Lib.hid hb8
            clear hb8 HH7
            go_wp2_with fail
            go_roundw
            case rel => exact ⟨j + 1, idel its d, by omega, by omega, by go_num, HS7.out.below HB8.out, HUq.out.del, HLD.out, HGD.out.del d, HB7.out.trans (HB8.out.mono HB7.out.size)⟩
            all_goals (simp only [RowKit.intOf]; omega)
      · have HEND := Lib.hid (show ∃ ks' km' its', Ending.returned (Value.tuple #[Value.pointer (some ⟨ks, 0, none⟩), Value.bool true]) = .returned (.tuple #[.pointer (some ⟨ks', 0, none⟩), .bool true]) ∧ Filled bg rk tb w.heap.size wr ks' km' its' ∧ Below w.heap.size w wr from ⟨_, _, _, rfl, ⟨HSr.out, by have := HKS.out; have := HB1.out.size; omega, by have := HKM.out; have := HB1.out.size; omega, HUq.out, HGD.out, HLN.out⟩, HB1.out.trans (HBr.out.mono HB1.out.size)⟩)
        have hfin : K ≤ j ∨ (j < K ∧ 80 ≤ j) ∨ (j < K ∧ j < 80 ∧ M = 0) := by omega
        rcases hfin with h1 | ⟨h1, h2⟩ | ⟨h1, h2, h3⟩
        · have q1 : ¬ ((j : Int) < (K : Int)) := by omega
          go_wp2_with fail
          exact bodyPost_ret (v := .tuple #[.pointer (some ⟨ks, 0, none⟩), .bool true]) (results_list (rs := [.tmp 2, .tmp 3]) rfl (by simp) (.tmp (.tmp .nil))) rfl HEND.out
        · have q1 : (j : Int) < (K : Int) := by omega
          have q2 : ¬ ((j : Int) < 80) := by omega
          go_wp2_with fail
          exact bodyPost_ret (v := .tuple #[.pointer (some ⟨ks, 0, none⟩), .bool true]) (results_list (rs := [.tmp 2, .tmp 3]) rfl (by simp) (.tmp (.tmp .nil))) rfl HEND.out
        · have q1 : (j : Int) < (K : Int) := by omega
          have q2 : (j : Int) < 80 := by omega
          have q3 : ¬ ((0 : Int) < (M : Int)) := by omega
          go_wp2_with fail
          exact bodyPost_ret (v := .tuple #[.pointer (some ⟨ks, 0, none⟩), .bool true]) (results_list (rs := [.tmp 2, .tmp 3]) rfl (by simp) (.tmp (.tmp .nil))) rfl HEND.out
end Go.Proofs.YtfbkkcigkpffiaaDoor.St
