/- The walks of object's Kind and Children, of a store's Kind and Children. -/
import Derived.Test.YtfbkkcigkpffiaaDoorHa
import Derived.Test.YtfbkkcigkpffiaaDoorGl
import Derived.Test.YtfbkkcigkpffiaaDoorPStoreManyx5
namespace Go.Proofs.YtfbkkcigkpffiaaDoor.St
open Go Go.Lib Go.RowKit Go.ChangeMaps Go.Proofs.YtfbkkcigkpffiaaDoorW.PrintWords Go.Proofs.YtfbkkcigkpffiaaDoorW.PrintLast Go.Proofs.YtfbkkcigkpffiaaDoorW.PrintMore Go.Proofs.YtfbkkcigkpffiaaDoor.PStoreMany
set_option linter.unusedVariables false
set_option linter.unusedSimpArgs false
set_option maxRecDepth 100000 in
set_option maxHeartbeats 4000000 in
theorem kind_any (tb : Tb) (er : Nat → Int) (h0 : ∀ m, er m = 0 ↔ m = 0) (b : List Int) (A : Option Addr) (c : Nat) (w : World) (hT : U8T tb w) (he : Ers er w) (hC : Kd.C kB w A b.length b) (hc : b.length ≤ c) (hl : b.length ≤ 140737488355328) (hby : ∀ y ∈ b, Byte y) :
    Calls Tryd.prog 30 #[.slice A b.length c] w fun e w' => ∃ k : Int, e = .returned (.int .i64 k) ∧ Below w.heap.size w w' ∧ (pe tb b = 0 → ∃ t s, rdo b = some (t, s) ∧ k = t.kind) := by
  have HP := Lib.hid (Parse_any tb er h0 b A c w hT he hC hc hl hby)
  obtain ⟨N, hN⟩ : ∃ N, b.length = N := ⟨_, rfl⟩
  rw [hN] at HP ⊢
  clear hT he hC hc hl hby hN
  go_enter Tryd.func30, Tryd.ntmps30
  go_wp2_with fail
  refine HP.out.mono ?_
  rintro e w1 ⟨cs, hcl, hco1, rfl, hb1, hbad, hgood⟩
  have HB1 := Lib.hid hb1
  have HBAD := Lib.hid hbad
  have HGOOD := Lib.hid hgood
  obtain ⟨k, hk⟩ : ∃ k : Int, cs[0]? = some (.int .i64 k) ∧ (pe tb b = 0 → ∃ t s, rdo b = some (t, s) ∧ k = t.kind) := by
    by_cases h : pe tb b = 0
    · obtain ⟨t, s, h1, h2⟩ := hgood h
      exact ⟨_, h2, fun _ => ⟨t, s, h1, rfl⟩⟩
    · exact ⟨0, hbad h, fun h1 => absurd h1 h⟩
  have HK := Lib.hid hk.1
  have HKT := Lib.hid hk.2
  obtain ⟨w2, hw2⟩ : ∃ w2, w1.alloc (.cells Tryd.zeroCells80 80) = w2 := ⟨_, rfl⟩
  have HW2 := Lib.hid hw2
  have HO2 := Lib.hid (show Blk w2 w1.heap.size 80 Tryd.zeroCells80.toList from hw2 ▸ new80 w1)
  have HB2 := Lib.hid (show Below w1.heap.size w1 w2 from hw2 ▸ below_alloc (Below.refl _ _) _)
  have HTH := Lib.hid (HO2.out.there 0 cs.toArray.size (by rw [List.size_toArray, hcl, zero80]; decide))
  have HSZ := Lib.hid (show (Tryd.prog.info? 80).map (·.size) = some cs.toArray.size from by rw [List.size_toArray, hcl]; exact size80)
  have HON := Lib.hid (all_oneCell_toArray hco1)
  have HI3 := Lib.hid (put_all w2 w1.heap.size 80 _ cs HO2.out (by rw [zero80, hcl]))
  have HB3 := Lib.hid (show Below w1.heap.size w1 (w2.setCells w1.heap.size 0 cs) from (But.setCells (k := w1.heap.size) cs 0 w2 (But.of_below HB2.out)).new (Nat.le_refl _))
  clear hb1 hbad hgood hk hw2 hcl hco1 HBAD HGOOD HP
  go_upto_region 2 with (first | (rw [HW2.out]; refine wpList_store_mid rfl 80 (.tmp 3) (.tmp 8) rfl w1.heap.size 0 cs.toArray rfl rfl HTH.out HSZ.out HON.out ?_))
  obtain ⟨w3, hw3⟩ : ∃ w3, w2.setCells w1.heap.size 0 cs = w3 := ⟨_, rfl⟩
  rw [hw3] at HI3 HB3 ⊢
  have c0 : w3.cell? ⟨w1.heap.size, 0, none⟩ = some (.int .i64 k) := by rw [HI3.out.cell]; exact HK.out
  clear hw3 HTH HSZ HON HO2 HB2 HW2
  go_wp2_with fail
  go_ret
  exact ⟨k, rfl, HB1.out.trans (HB3.out.mono HB1.out.size), HKT.out⟩
theorem kids_tree (A : Option Addr) (n c : Nat) (w : World) : (method 279 115 (.slice A n c) "satchel/object.children").run Tryd.prog w = .ok (106, .slice A n c) w := by kernel_rfl
theorem kids_blob (A : Option Addr) (n c : Nat) (w : World) : (method 279 104 (.slice A n c) "satchel/object.children").run Tryd.prog w = .ok (103, .slice A n c) w := by kernel_rfl
theorem kids_com (cs : Array Value) (w : World) : (method 279 116 (.agg cs) "satchel/object.children").run Tryd.prog w = .ok (115, .agg cs) w := by kernel_rfl
theorem kids_tag (cs : Array Value) (w : World) : (method 279 117 (.agg cs) "satchel/object.children").run Tryd.prog w = .ok (121, .agg cs) w := by kernel_rfl
/-- What Children answers. -/
def KidsO (tb : Tb) (b : List Int) (w : World) (e : Ending) (w' : World) : Prop :=
  ∃ v t s, e = .returned (.tuple #[v, .int .i64 0]) ∧ rdo b = some (t, s) ∧ LinksAt w' v (kids t) ∧ Below w.heap.size w w'
/-- What is read out of bytes is not longer than they are. -/
theorem th_small {tb : Tb} {b : List Int} (h : pe tb b = 0) {t : Th} {s : Rs} (hr : rdo b = some (t, s)) : t.Ok tb := by
  unfold pe at h
  by_cases e : 65536 < b.length
  · rw [if_pos e] at h; cases h
  · rw [if_neg e, hr] at h
    simp only at h
    by_cases e2 : (s.m = 0 ∧ ¬ s.p < b.length) ∧ t.Ok tb
    · exact e2.2
    · rw [if_neg e2] at h; cases h
theorem C_lens {w : World} {A : Option Addr} {L : List By} (h : Kd.C kI w A L.length L) : ∀ x ∈ L, x.length = 32 := fun x hx => by
  obtain ⟨i, hi, rfl⟩ := List.mem_iff_getElem.1 hx
  obtain ⟨ad, _, hc⟩ := h.2.2 (by omega)
  obtain ⟨c, _, hk, _⟩ := hc i _ (List.getElem?_eq_getElem hi)
  exact hk.1
set_option maxRecDepth 100000 in
set_option maxHeartbeats 8000000 in
theorem kids_any (tb : Tb) (er : Nat → Int) (h0 : ∀ m, er m = 0 ↔ m = 0) (b : List Int) (A : Option Addr) (c : Nat) (w : World) (hT : U8T tb w) (he : Ers er w) (hC : Kd.C kB w A b.length b) (hc : b.length ≤ c) (hl : b.length ≤ 140737488355328) (hby : ∀ y ∈ b, Byte y) (hp : pe tb b = 0) :
    Calls Tryd.prog 28 #[.slice A b.length c] w (KidsO tb b w) := by
  have HP := Lib.hid (parse_any tb er h0 b A c w hT he hC hc hl hby)
  have HPE := Lib.hid hp
  unfold Parsed at HP
  rw [hp] at HP
  obtain ⟨N, hN⟩ : ∃ N, b.length = N := ⟨_, rfl⟩
  rw [hN] at HP ⊢
  clear hT he hC hc hl hby hN hp
  obtain ⟨post, hpost⟩ : ∃ post, KidsO tb b w = post := ⟨_, rfl⟩
  have HPO := Lib.hid hpost
  rw [hpost]
  clear hpost
  go_enter Tryd.func28, Tryd.ntmps28
  go_wp2_with fail
  refine HP.out.mono ?_
  rintro e w1 ⟨v, rfl, hb1, _, hgood⟩
  obtain ⟨t, s, hr, hat⟩ := hgood (by first | rfl | trivial)
  have HB1 := Lib.hid hb1
  have HRD := Lib.hid hr
  have HOK := Lib.hid (th_small HPE.out hr)
  clear hb1 hr hgood HP
  cases t with
  | blob l =>
    obtain ⟨A1, c1, rfl, _, _⟩ := hat
    have hm := fun W => kids_blob A1 l.length c1 W
    go_wp2_with (go_at_call 103; refine (blob_kids _ _).mono ?_; rintro e w2 ⟨rfl, rfl⟩)
    rw [← HPO.out]
    exact ⟨_, _, _, rfl, HRD.out, ⟨none, 0, rfl, Nat.le_refl _, rfl, Nat.zero_le _, fun h => absurd h (Nat.lt_irrefl _)⟩, HB1.out⟩
  | tree es =>
    obtain ⟨A1, c1, rfl, hc1, hC1⟩ := hat
    have hm := fun W => kids_tree A1 es.length c1 W
    have HKD := Lib.hid (tree_kids es A1 c1 w1 (Nat.le_trans HOK.out.1 (by decide)) hC1)
    clear hc1 hC1
    go_wp2_with fail
    refine HKD.out.mono ?_
    rintro e w2 ⟨l, rfl, hk, hb⟩
    have HK := Lib.hid hk
    have HB2 := Lib.hid (HB1.out.trans (hb.mono HB1.out.size))
    clear hk hb
    obtain ⟨A2, c2, hv2, _⟩ := HK.out
    subst hv2
    go_wp2_with fail
    rw [← HPO.out]
    exact ⟨_, _, _, rfl, HRD.out, HK.out, HB2.out⟩
  | com x =>
    obtain ⟨A1, c1, rfl, hx, hc1, hC1⟩ := hat
    have hm := fun cs W => kids_com cs W
    have HKD := Lib.hid (com_kids x A1 c1 hx (C_lens hC1) (Nat.le_trans HOK.out.1 (by decide)) w1 hC1)
    clear hc1 hC1 hx
    go_wp2_with fail
    refine HKD.out.mono ?_
    rintro e w2 ⟨l, rfl, hk, hb⟩
    have HK := Lib.hid hk
    have HB2 := Lib.hid (HB1.out.trans (hb.mono HB1.out.size))
    clear hk hb
    obtain ⟨A2, c2, hv2, _⟩ := HK.out
    subst hv2
    go_wp2_with fail
    rw [← HPO.out]
    exact ⟨_, _, _, rfl, HRD.out, HK.out, HB2.out⟩
  | tag x =>
    obtain ⟨rfl, hx⟩ := hat
    have hm := fun cs W => kids_tag cs W
    have HKD := Lib.hid (tag_kids x hx w1)
    clear hx
    go_wp2_with fail
    refine HKD.out.mono ?_
    rintro e w2 ⟨l, rfl, hk, hb⟩
    have HK := Lib.hid hk
    have HB2 := Lib.hid (HB1.out.trans (hb.mono HB1.out.size))
    clear hk hb
    obtain ⟨A2, c2, hv2, _⟩ := HK.out
    subst hv2
    go_wp2_with fail
    rw [← HPO.out]
    exact ⟨_, _, _, rfl, HRD.out, HK.out, HB2.out⟩
end Go.Proofs.YtfbkkcigkpffiaaDoor.St

namespace Go.Proofs.YtfbkkcigkpffiaaDoor.St
open Go Go.Lib Go.RowKit Go.ChangeMaps Go.Proofs.YtfbkkcigkpffiaaDoorW.PrintWords Go.Proofs.YtfbkkcigkpffiaaDoorW.PrintLast Go.Proofs.YtfbkkcigkpffiaaDoorW.PrintMore Go.Proofs.YtfbkkcigkpffiaaDoor.PStoreMany
set_option linter.unusedVariables false
set_option linter.unusedSimpArgs false
theorem part33 (cs : Array Value) (W : World) : (part 33 cs 0).run Tryd.prog W = .ok (.agg (cs.extract 0 32)) W := by
  simp [part, Sem.run_bind, Tryd.isAgg33, Tryd.sizeOf33]
theorem lnk_id {x : Lnk} (hx : x.id.length = 32) : (lnkC x).toArray.extract 0 32 = (cl x.id).toArray := by
  apply Array.ext'
  rw [Array.toList_extract]
  simp [List.extract, lnkC, hx]
theorem lnk_kd {x : Lnk} (hx : x.id.length = 32) : (lnkC x).toArray[32]? = some (.int .i64 x.kd) := by
  simp [lnkC, hx]
theorem equal97 {x : Lnk} (hx : x.id.length = 32) (W : World) : (Op.equal 97 (.agg (lnkC x).toArray) (.agg (lnkC x).toArray)).run Tryd.prog W = .ok true W := by
  have hi : (Op.equalIn 9999 33 (.agg (cl x.id).toArray) (.agg (cl x.id).toArray)).run Tryd.prog W = .ok true W := by
    have h := run_equalIn_bytes (P := Tryd.prog) W 9997 33 5 32 Tryd.underlying33 Tryd.underlying5 Tryd.sizeOf5 x.id x.id hx hx
    refine h.trans ?_
    simp
  have hp : (part 33 (lnkC x).toArray 0).run Tryd.prog W = .ok (.agg (cl x.id).toArray) W := by rw [part33, lnk_id hx]
  have hk : (part 3 (lnkC x).toArray 32).run Tryd.prog W = .ok (.int .i64 x.kd) W := run_part_plain W (by kernel_rfl) (lnk_kd hx)
  have he : (Op.equalIn 9999 3 (.int .i64 x.kd) (.int .i64 x.kd)).run Tryd.prog W = .ok true W := by
    have h := run_equalIn_int (P := Tryd.prog) W 9998 3 .i64 .i64 x.kd x.kd Tryd.underlying3
    refine h.trans ?_
    simp
  have h := eqf_cons (P := Tryd.prog) (f := { name := "ID", type := 33, offset := 0, embedded := false, tag := "", pkgPath := "", byteOffset := 0 }) (by decide) hp hp hi
    (eqf_last (P := Tryd.prog) (f := { name := "Kind", type := 3, offset := 32, embedded := false, tag := "", pkgPath := "", byteOffset := 32 }) (by decide) hk hk he)
  exact eqA_of (d := 9999) Tryd.underlying97 (by kernel_rfl) h
theorem neq97 {x : Lnk} (hx : x.id.length = 32) (W : World) : (binOp .neq 97 (.agg (lnkC x).toArray) (.agg (lnkC x).toArray)).run Tryd.prog W = .ok (.bool false) W := by
  have h := equal97 hx W
  unfold binOp
  simp only [Sem.run_bind, h, Result.andThen_ok, Sem.run_pure]
  rfl
theorem guard97 (op : BinOp) (a b : Operand) (xs ys : Array Value) (w : World) : (eqGuard op 97 a b (.agg xs) (.agg ys)).run Tryd.prog w = .ok () w := run_eqGuard_agg w op 97 a b _ _ Tryd.eqGuardType97
theorem CL_at {w : World} {A : Option Addr} {L : List Lnk} (h : Kd.C kL w A L.length L) (i : Nat) (hi : i < L.length) : ∃ ad, A = some ad ∧ CellsAt w (ad.add (i * 33)) (lnkC L[i]) ∧ L[i].id.length = 32 := by
  obtain ⟨ad, hA, hcell⟩ := h.2.2 (by omega)
  obtain ⟨cs, _, hk, hc⟩ := hcell i _ (List.getElem?_eq_getElem hi)
  refine ⟨ad, hA, fun j v hj => ?_, hk.1⟩
  have := hc j v (by rw [hk.2]; exact hj)
  rw [Addr.add_add]
  exact this
set_option maxRecDepth 100000 in
set_option maxHeartbeats 4000000 in
theorem same_walk (L : List Lnk) (A B : Option Addr) (c c' : Nat) (w : World) (hA : Kd.C kL w A L.length L) (hB : Kd.C kL w B L.length L) :
    Calls Tryd.prog 31 #[.slice A L.length c, .slice B L.length c'] w fun e w' => e = .returned (.bool true) ∧ Below w.heap.size w w' := by
  have HA := Lib.hid hA
  have HB := Lib.hid hB
  have hl : L.length ≤ 9223372036854775807 := hA.2.1
  obtain ⟨N, hN⟩ : ∃ N, L.length = N := ⟨_, rfl⟩
  have HN := Lib.hid hN
  rw [hN] at hl ⊢
  clear hA hB hN
  go_enter Tryd.func31, Tryd.ntmps31
  go_wp2_with fail
  go_loopw [5] (fun v5 wr => ∃ i : Nat, i ≤ N ∧ v5 = .int .i64 i ∧ Below w.heap.size w wr) (fun v5 _ => N - (RowKit.intOf v5).toNat)
  case atStart => exact ⟨0, Nat.zero_le _, rfl, Below.refl _ _⟩
  case round =>
    obtain ⟨i, hi, rfl, hbw⟩ := hrel
    have HBW := Lib.hid hbw
    clear hbw
    by_cases hlt : i < N
    · have hlt' : (i : Int) < (N : Int) := by omega
      have hi0 : (0 : Int) ≤ (i : Int) := by omega
      have hil : i < L.length := by rw [HN.out]; exact hlt
      obtain ⟨ad, rfl, hat, hx⟩ := CL_at HA.out i hil
      obtain ⟨bd, rfl, hbt, _⟩ := CL_at HB.out i hil
      have HXL := Lib.hid hx
      have HL1 := Lib.hid (fun w' (h : Below wr.heap.size wr w') => ((hat.below HBW.out).below h).load 97 Tryd.isAgg97 (fun W => by rw [lnkC_len HXL.out]; exact Tryd.sizeOf97 W))
      have HL2 := Lib.hid (fun w' (h : Below wr.heap.size wr w') => ((hbt.below HBW.out).below h).load 97 Tryd.isAgg97 (fun W => by rw [lnkC_len HXL.out]; exact Tryd.sizeOf97 W))
      have hn := neq97 HXL.out
      obtain ⟨xs, hxs⟩ : ∃ xs, (lnkC L[i]).toArray = xs := ⟨_, rfl⟩
      rw [hxs] at HL1 HL2 hn
      have hg := fun op a b => guard97 op a b xs xs
      clear hxs hat hbt hx
      go_upto_region 6 with fail
      refine wp_region_cls (by kernel_rfl) (by kernel_rfl) ?_
      repeat (first | go_big_quiet_skip | (go_big_quiet_want; refine quiet_ld 97 (.tmp 19) rfl (ad.add (i * 33)) rfl (.agg xs) HL1.out ?_; (try simp only [Act.put, List.setIfInBounds_toArray, List.set_cons_zero, List.set_cons_succ]); go_big_quiet_on) | (go_big_quiet_want; refine quiet_ld 97 (.tmp 23) rfl (bd.add (i * 33)) rfl (.agg xs) HL2.out ?_; (try simp only [Act.put, List.setIfInBounds_toArray, List.set_cons_zero, List.set_cons_succ]); go_big_quiet_on) | go_big_quiet_step (fail))
      refine wpQuiet_nil ?_
      rintro wy ⟨q, rfl⟩
      have HB8 := Lib.hid (HBW.out.trans (q.below.mono HBW.out.size))
      obtain ⟨w8, hw8⟩ : ∃ w8, q.at = w8 := ⟨_, rfl⟩
      rw [hw8] at HB8 ⊢
      clear HL1 HL2 hn hg hw8
      go_wp2_with fail
      go_roundw
      case rel => exact ⟨i + 1, by omega, by go_num, HB8.out⟩
      all_goals (simp only [RowKit.intOf]; omega)
    · obtain rfl : i = N := by omega
      go_wp2_with fail
      go_ret
      exact ⟨rfl, HBW.out⟩
set_option maxRecDepth 100000 in
set_option maxHeartbeats 4000000 in
theorem skind_walk (tb : Tb) (er : Nat → Int) (h0 : ∀ m, er m = 0 ↔ m = 0) (ks km : Nat) (its : Its) (d : By) (b : List Int) (hd : d.length = 32) (w : World) (hT : U8T tb w) (he : Ers er w) (h : StoreAt w ks km its) (hg : iget its d = some b) (hp : pe tb b = 0) (hby : ∀ y ∈ b, Byte y) :
    Calls Tryd.prog 26 #[.pointer (some ⟨ks, 0, none⟩), vId d] w fun e w' => Below w.heap.size w w' ∧ ∃ t s, rdo b = some (t, s) ∧ e = .returned (.tuple #[.int .i64 t.kind, .int .i64 0]) := by
  obtain ⟨w1, hw1⟩ : ∃ w1, w.alloc (.cells (cl d).toArray 33) = w1 := ⟨_, rfl⟩
  have HW1 := Lib.hid hw1
  have HB1 := Lib.hid (show Below w.heap.size w w1 from hw1 ▸ below_alloc (Below.refl _ _) _)
  have HI := Lib.hid (show Blk w1 w.heap.size 33 (cl d) from hw1 ▸ Blk.new w 33 (cl d))
  have HS := Lib.hid (h.below HB1.out)
  have HT := Lib.hid hT
  have HE := Lib.hid he
  have HER := Lib.hid h0
  have HBY := Lib.hid hby
  have HPE := Lib.hid hp
  have c0 : ∀ q : Cls w1, q.at.cell? ⟨ks, 0, none⟩ = some (.map (some km)) := fun q => q.cell (HS.out.blk.cell 0)
  have HL1 := Lib.hid (fun w' (hb : Below w1.heap.size w1 w') => (HI.out.below hb).loads 33 Tryd.isAgg33 (fun W => by rw [List.length_map, hd]; exact Tryd.sizeOf33 W))
  obtain ⟨A, c, hlc, hC, hv⟩ : ∃ A c, b.length ≤ c ∧ Kd.C kB w1 A b.length b ∧ (∀ w', Below w1.heap.size w1 w' → (Instr.lookup 70 (.map (some km)) (vId d) true).run Tryd.prog w' = .ok (.tuple #[.slice A b.length c, .bool true]) w') := by
    obtain ⟨kv, hm, hs⟩ := HS.out.map
    rcases hs.get d with ⟨h1, h2⟩ | ⟨v, b', h1, h2, A, c, h3, h4, h5⟩
    · rw [hg] at h1; cases h1
    · obtain rfl : b = b' := by rw [hg] at h1; exact Option.some.inj h1
      refine ⟨A, c, h4, h5, fun w' hb => ?_⟩
      rw [(hm.below hb).lookup hd true, h2, h3]; rfl
  have HLK := Lib.hid hv
  have HC := Lib.hid hC
  have HLC := Lib.hid hlc
  have HLE := Lib.hid (pe_len hp)
  obtain ⟨N, hN⟩ : ∃ N, b.length = N := ⟨_, rfl⟩
  have HN := Lib.hid hN
  rw [hN] at HLK
  clear h hw1 hv hlc hC hT he h0 hby hp hg hN
  go_enter Tryd.func26, Tryd.ntmps26
  go_upto_region 1 with (fail)
  rw [HW1.out]
  refine wp_region_cls (by kernel_rfl) (by kernel_rfl) ?_
  repeat (first | go_big_quiet_skip | (go_big_quiet_want; refine quiet_ld 33 (.tmp 3) rfl ⟨w.heap.size, 0, none⟩ rfl (vId d) HL1.out ?_; (try simp only [Act.put, List.setIfInBounds_toArray, List.set_cons_zero, List.set_cons_succ]); go_big_quiet_on) | (go_big_quiet_want; refine quiet_look 70 (.tmp 12) (.tmp 13) true rfl (.map (some km)) (vId d) rfl rfl (.tuple #[.slice A N c, .bool true]) HLK.out ?_; (try simp only [Act.put, List.setIfInBounds_toArray, List.set_cons_zero, List.set_cons_succ]); go_big_quiet_on) | go_big_quiet_step (fail))
  refine wpQuiet_nil ?_
  rintro wy ⟨q, rfl⟩
  have HB := Lib.hid (HB1.out.trans (q.below.mono HB1.out.size))
  have HBQ := Lib.hid q.below
  obtain ⟨w8, hw8⟩ : ∃ w8, q.at = w8 := ⟨_, rfl⟩
  rw [hw8] at HB HBQ ⊢
  clear c0 hw8 q HL1 HLK
  have HCL := Lib.hid (kind_any tb er HER.out b A c w8 (HT.out.below HB.out) (HE.out.below HB.out) (Kd.C_below HC.out HBQ.out) HLC.out (Nat.le_trans HLE.out (by decide)) HBY.out)
  rw [HN.out] at HCL
  go_wp2_with fail
  refine HCL.out.mono ?_
  rintro e w9 ⟨k, rfl, hb9, hk⟩
  have HB9 := Lib.hid (HB.out.trans (hb9.mono HB.out.size))
  have HK := Lib.hid (hk HPE.out)
  clear hk hb9
  go_wp2_with fail
  exact bodyPost_ret (v := .tuple #[.int .i64 k, .int .i64 0]) (results_list (rs := [.tmp 4, .tmp 5]) rfl (by simp) (.tmp (.tmp .nil))) rfl ⟨HB9.out, by
    obtain ⟨t, s, h1, h2⟩ := HK.out
    exact ⟨t, s, h1, by rw [h2]⟩⟩
set_option maxRecDepth 100000 in
set_option maxHeartbeats 4000000 in
theorem skids_walk (tb : Tb) (er : Nat → Int) (h0 : ∀ m, er m = 0 ↔ m = 0) (ks km : Nat) (its : Its) (d : By) (b : List Int) (hd : d.length = 32) (w : World) (hT : U8T tb w) (he : Ers er w) (h : StoreAt w ks km its) (hg : iget its d = some b) (hp : pe tb b = 0) (hby : ∀ y ∈ b, Byte y) :
    Calls Tryd.prog 27 #[.pointer (some ⟨ks, 0, none⟩), vId d] w fun e w' => Below w.heap.size w w' ∧ ∃ v t s, rdo b = some (t, s) ∧ e = .returned (.tuple #[v, .int .i64 0]) ∧ LinksAt w' v (kids t) := by
  obtain ⟨w1, hw1⟩ : ∃ w1, w.alloc (.cells (cl d).toArray 33) = w1 := ⟨_, rfl⟩
  have HW1 := Lib.hid hw1
  have HB1 := Lib.hid (show Below w.heap.size w w1 from hw1 ▸ below_alloc (Below.refl _ _) _)
  have HI := Lib.hid (show Blk w1 w.heap.size 33 (cl d) from hw1 ▸ Blk.new w 33 (cl d))
  have HS := Lib.hid (h.below HB1.out)
  have HT := Lib.hid hT
  have HE := Lib.hid he
  have HER := Lib.hid h0
  have HBY := Lib.hid hby
  have HPE := Lib.hid hp
  have c0 : ∀ q : Cls w1, q.at.cell? ⟨ks, 0, none⟩ = some (.map (some km)) := fun q => q.cell (HS.out.blk.cell 0)
  have HL1 := Lib.hid (fun w' (hb : Below w1.heap.size w1 w') => (HI.out.below hb).loads 33 Tryd.isAgg33 (fun W => by rw [List.length_map, hd]; exact Tryd.sizeOf33 W))
  obtain ⟨A, c, hlc, hC, hv⟩ : ∃ A c, b.length ≤ c ∧ Kd.C kB w1 A b.length b ∧ (∀ w', Below w1.heap.size w1 w' → (Instr.lookup 70 (.map (some km)) (vId d) true).run Tryd.prog w' = .ok (.tuple #[.slice A b.length c, .bool true]) w') := by
    obtain ⟨kv, hm, hs⟩ := HS.out.map
    rcases hs.get d with ⟨h1, h2⟩ | ⟨v, b', h1, h2, A, c, h3, h4, h5⟩
    · rw [hg] at h1; cases h1
    · obtain rfl : b = b' := by rw [hg] at h1; exact Option.some.inj h1
      refine ⟨A, c, h4, h5, fun w' hb => ?_⟩
      rw [(hm.below hb).lookup hd true, h2, h3]; rfl
  have HLK := Lib.hid hv
  have HC := Lib.hid hC
  have HLC := Lib.hid hlc
  have HLE := Lib.hid (pe_len hp)
  obtain ⟨N, hN⟩ : ∃ N, b.length = N := ⟨_, rfl⟩
  have HN := Lib.hid hN
  rw [hN] at HLK
  clear h hw1 hv hlc hC hT he h0 hby hp hg hN
  go_enter Tryd.func27, Tryd.ntmps27
  go_upto_region 1 with (fail)
  rw [HW1.out]
  refine wp_region_cls (by kernel_rfl) (by kernel_rfl) ?_
  repeat (first | go_big_quiet_skip | (go_big_quiet_want; refine quiet_ld 33 (.tmp 3) rfl ⟨w.heap.size, 0, none⟩ rfl (vId d) HL1.out ?_; (try simp only [Act.put, List.setIfInBounds_toArray, List.set_cons_zero, List.set_cons_succ]); go_big_quiet_on) | (go_big_quiet_want; refine quiet_look 70 (.tmp 12) (.tmp 13) true rfl (.map (some km)) (vId d) rfl rfl (.tuple #[.slice A N c, .bool true]) HLK.out ?_; (try simp only [Act.put, List.setIfInBounds_toArray, List.set_cons_zero, List.set_cons_succ]); go_big_quiet_on) | go_big_quiet_step (fail))
  refine wpQuiet_nil ?_
  rintro wy ⟨q, rfl⟩
  have HB := Lib.hid (HB1.out.trans (q.below.mono HB1.out.size))
  have HBQ := Lib.hid q.below
  obtain ⟨w8, hw8⟩ : ∃ w8, q.at = w8 := ⟨_, rfl⟩
  rw [hw8] at HB HBQ ⊢
  clear c0 hw8 q HL1 HLK
  have HCL := Lib.hid (kids_any tb er HER.out b A c w8 (HT.out.below HB.out) (HE.out.below HB.out) (Kd.C_below HC.out HBQ.out) HLC.out (Nat.le_trans HLE.out (by decide)) HBY.out HPE.out)
  rw [HN.out] at HCL
  go_wp2_with fail
  refine HCL.out.mono ?_
  rintro e w9 ⟨v, t, s, rfl, hr, hk, hb9⟩
  have HB9 := Lib.hid (HB.out.trans (hb9.mono HB.out.size))
  have HK := Lib.hid hk
  have HR := Lib.hid hr
  clear hk hb9 hr
  obtain ⟨A2, c2, hv2, _⟩ := HK.out
  subst hv2
  go_wp2_with fail
  exact bodyPost_ret (v := .tuple #[.slice A2 (kids t).length c2, .int .i64 0]) (results_list (rs := [.tmp 4, .tmp 5]) rfl (by simp) (.tmp (.tmp .nil))) rfl ⟨HB9.out, _, t, s, HR.out, rfl, HK.out⟩
/-! ### CmpID -/
/-- Two rows, compared. -/
def cmpI : List Int → List Int → Int
  | [], [] => 0
  | [], _ :: _ => -1
  | _ :: _, [] => 1
  | a :: x, b :: y => if a < b then -1 else if a > b then 1 else cmpI x y
theorem cmpI_cons (a b : Int) (x y : List Int) : cmpI (a :: x) (b :: y) = if a < b then -1 else if a > b then 1 else cmpI x y := rfl
theorem rd_at {l : List Int} {i : Nat} (h : i < l.length) : Go.Proofs.YtfbkkcigkpffiaaDoorW.PrintWords.rd l (i : Int) = l[i] := by
  unfold Go.Proofs.YtfbkkcigkpffiaaDoorW.PrintWords.rd
  rw [Int.toNat_natCast, List.getD_eq_getElem?_getD, List.getElem?_eq_getElem h]
  rfl
theorem cmp_at (l m : List Int) (hlm : l.length = m.length) (hl : l.length ≤ 4611686018427387904) : ∀ d i : Nat, i + d = l.length → satchelref0_Cmp.l0 (2 * d + 2) l m (i : Int) = some (cmpI (l.drop i) (m.drop i))
  | 0, i, h => by
    rw [show 2 * 0 + 2 = 1 + 1 from rfl]
    unfold satchelref0_Cmp.l0
    rw [if_neg (by omega)]
    unfold satchelref0_Cmp.j1
    rw [if_neg (by decide), if_neg (by omega), if_neg (by omega), List.drop_of_length_le (by omega), List.drop_of_length_le (by omega)]
    rfl
  | d + 1, i, h => by
    have h1 : i < l.length := by omega
    have h2 : i < m.length := by omega
    rw [show 2 * (d + 1) + 2 = (2 * d + 2) + 1 + 1 by omega]
    unfold satchelref0_Cmp.l0
    rw [if_pos (by omega)]
    unfold satchelref0_Cmp.j1
    rw [if_pos (by simp; omega), if_pos (by omega), if_pos (by omega), if_pos (by omega)]
    rw [show wrap64 ((i : Int) + 1) = ((i + 1 : Nat) : Int) by unfold wrap64; omega]
    rw [cmp_at l m hlm hl d (i + 1) (by omega), List.drop_eq_getElem_cons h1, List.drop_eq_getElem_cons h2, rd_at h1, rd_at h2, cmpI_cons]
    by_cases e1 : l[i] < m[i]
    · rw [if_pos e1, if_pos e1]
    · rw [if_neg e1, if_neg e1]
      by_cases e2 : l[i] > m[i]
      · rw [if_pos e2, if_pos e2]
      · rw [if_neg e2, if_neg e2]
theorem cmpI_lt : ∀ (a b : By), a < b → cmpI (intsB a) (intsB b) = -1
  | [], [], h => absurd h (by simp)
  | [], _ :: _, _ => rfl
  | _ :: _, [], h => absurd h (by simp)
  | x :: a, y :: b, h => by
    show (if (x.toNat : Int) < (y.toNat : Int) then (-1 : Int) else if (x.toNat : Int) > (y.toNat : Int) then 1 else cmpI (intsB a) (intsB b)) = -1
    rcases List.cons_lt_cons_iff.1 h with h1 | ⟨rfl, h1⟩
    · have h2 : x.toNat < y.toNat := UInt8.lt_iff_toNat_lt.1 h1
      rw [if_pos (by omega)]
    · rw [if_neg (by omega), if_neg (by omega)]
      exact cmpI_lt a b h1
theorem by_C {w : World} {k : Nat} {l : By} (h : Blk w k 33 (cl l)) (hl : l.length ≤ 9223372036854775807) : Kd.C kB w (some ⟨k, 0, none⟩) (intsB l).length (intsB l) :=
  ⟨rfl, by unfold intsB; rw [List.length_map]; exact hl, fun _ => ⟨_, rfl, fun j p hp => ⟨[b8 p], rfl, rfl, fun i u hu => by
    have hi : i = 0 := by
      have := (List.getElem?_eq_some_iff.1 hu).1
      simpa using this
    subst hi
    cases hu
    unfold intsB at hp
    rw [List.getElem?_map] at hp
    cases hq : l[j]? with
    | none => simp [hq] at hp
    | some y =>
      rw [hq] at hp
      obtain rfl := (by simpa using hp : _ = p)
      have h := h.by j y hq
      rw [show j * kB.sz + 0 = j by show j * 1 + 0 = j; omega]
      exact h⟩⟩⟩
set_option maxRecDepth 100000 in
set_option maxHeartbeats 4000000 in
theorem cmpid_walk (x y : By) (hx : x.length = 32) (hy : y.length = 32) (hlt : x < y) (w : World) :
    Calls Tryd.prog 32 #[vId x, vId y] w fun e w' => e = .returned (.int .i64 (-1)) ∧ Below w.heap.size w w' := by
  obtain ⟨w1, hw1⟩ : ∃ w1, w.alloc (Obj.cells (cl x).toArray 33) = w1 := ⟨_, rfl⟩
  obtain ⟨w2, hw2⟩ : ∃ w2, w1.alloc (Obj.cells (cl y).toArray 33) = w2 := ⟨_, rfl⟩
  have hX1 : Blk w1 w.heap.size 33 (cl x) := hw1 ▸ Blk.new w 33 (cl x)
  have hY2 : Blk w2 w1.heap.size 33 (cl y) := hw2 ▸ Blk.new w1 33 (cl y)
  have hb12 : Below w1.heap.size w1 w2 := hw2 ▸ below_alloc (Below.refl _ _) _
  have HB2 := Lib.hid (show Below w.heap.size w w2 from (hw1 ▸ below_alloc (Below.refl _ _) _ : Below w.heap.size w w1).trans (hb12.mono (by rw [← hw1]; simp)))
  have hX2 := hX1.below hb12
  have HW1 := Lib.hid hw1
  have HW2 := Lib.hid hw2
  have HC := Lib.hid (fun W (hb : Below w2.heap.size w2 W) => by
    have h := satchelref0_Cmp.calls (2 * 32 + 2) (some ⟨w.heap.size, 0, none⟩) 32 (intsB x) (some ⟨w1.heap.size, 0, none⟩) 32 (intsB y) (-1) W (by_C (hX2.below hb) (by omega)) (by unfold intsB; rw [List.length_map]; omega) (by_C (hY2.below hb) (by omega)) (by unfold intsB; rw [List.length_map]; omega) (by
      unfold satchelref0_Cmp.f
      have h9 := cmp_at (intsB x) (intsB y) (by unfold intsB; rw [List.length_map, List.length_map, hx, hy]) (by unfold intsB; rw [List.length_map]; omega) 32 0 (by unfold intsB; rw [List.length_map]; omega)
      rw [List.drop_zero, List.drop_zero, cmpI_lt x y hlt] at h9
      exact h9)
    rw [show (intsB x).length = 32 by unfold intsB; rw [List.length_map]; exact hx, show (intsB y).length = 32 by unfold intsB; rw [List.length_map]; exact hy, show w1.heap.size = w.heap.size + 1 from by rw [← hw1]; simp] at h
    exact h.mono fun _ _ hh => (⟨hh.1, hh.2.below⟩ : _ ∧ Below W.heap.size W _))
  clear hX1 hY2 hb12 hX2 hw1 hw2 hx hy hlt
  go_enter Tryd.func32, Tryd.ntmps32
  go_upto_region 1 with fail
  rw [HW1.out]
  rw [HW2.out]
  refine wp_region_cls (by kernel_rfl) (by kernel_rfl) ?_
  repeat (first | go_big_quiet_skip | go_big_quiet_step (refine cls_call (HC.out _ (Cls.below _))))
  refine wpQuiet_nil ?_
  rintro wy ⟨q, rfl⟩
  have HB := Lib.hid (HB2.out.trans (q.below.mono HB2.out.size))
  obtain ⟨w8, hw8⟩ : ∃ w8, q.at = w8 := ⟨_, rfl⟩
  rw [hw8] at HB ⊢
  clear hw8 q
  go_wp2_with fail
  go_ret
  exact ⟨rfl, HB.out⟩
end Go.Proofs.YtfbkkcigkpffiaaDoor.St
