/- The walks of code's Reader, as far as a blob wants them. -/
import Derived.Test.YtfbkkcigkpffiaaDoorSdG
namespace Go.Proofs.YtfbkkcigkpffiaaDoor.St
open Go Go.Lib Go.RowKit Go.ChangeMaps Go.Proofs.YtfbkkcigkpffiaaDoorW.PrintWords Go.Proofs.YtfbkkcigkpffiaaDoorW.PrintLast Go.Proofs.YtfbkkcigkpffiaaDoorW.PrintMore Go.Proofs.YtfbkkcigkpffiaaDoor.PStoreMany
set_option linter.unusedVariables false
set_option linter.unusedSimpArgs false
/-- A reader: its bytes, where it stands, what it has met. -/
structure RdAt (w : World) (k : Nat) (A : Option Addr) (c : Nat) (b : List Int) (p m : Nat) : Prop where
  blk : Blk w k 129 [.slice A b.length c, .int .i64 p, .int .i64 m]
  cap : b.length ≤ c
  src : Src k w A b
theorem RdAt.below {w w' : World} {k : Nat} {A : Option Addr} {c : Nat} {b : List Int} {p m : Nat} (h : RdAt w k A c b p m) (hb : Below w.heap.size w w') : RdAt w' k A c b p m := ⟨h.blk.below hb, h.cap, h.src.but (But.of_below hb)⟩
theorem Src.C {k : Nat} {w : World} {A : Option Addr} {b : List Int} (h : Src k w A b) : Kd.C kB w A b.length b :=
  ⟨rfl, by have := h.1; omega, fun hp => by
    obtain ⟨ad, e, _, hc⟩ := h.2 hp
    refine ⟨ad, e, fun j x hj => ⟨[b8 x], rfl, rfl, fun i v hv => ?_⟩⟩
    obtain ⟨hi, rfl⟩ := List.getElem?_eq_some_iff.1 hv
    have hi0 : i = 0 := by simpa using hi
    subst hi0
    show w.cell? (ad.add (j * 1 + 0)) = _
    rw [Nat.mul_one, Nat.add_zero]
    exact hc j x hj⟩
set_option maxRecDepth 100000 in
set_option maxHeartbeats 4000000 in
/-- Bytes in new memory. -/
theorem taken_walk (b : List Int) (A : Option Addr) (c : Nat) (w : World) (hC : Kd.C kB w A b.length b) (hc : b.length ≤ c) (hl : b.length ≤ 1000000000) :
    Calls Tryd.prog 69 #[.slice A b.length c] w fun e w' => ∃ g, e = .returned (.slice (some ⟨g, 0, none⟩) b.length b.length) ∧ w.heap.size ≤ g ∧ Blk w' g 5 (b.map b8) ∧ Below w.heap.size w w' := by
  have HC := Lib.hid hC
  obtain ⟨N, hN⟩ : ∃ N, b.length = N := ⟨_, rfl⟩
  have HN := Lib.hid hN
  rw [hN] at hc hl ⊢
  obtain ⟨g, hg⟩ : ∃ g, w.heap.size = g := ⟨_, rfl⟩
  obtain ⟨i5, hi5, hz5, hs5, hby5⟩ := info_parts info5
  have hms := run_make (P := Tryd.prog) (w := w) 30 5 i5 (.int .u8 0) Tryd.underlying30 hi5 hz5 .i64 .i64 (N : Int) (N : Int) (by omega) (by omega) (by rw [hby5]; omega) (by omega)
  rw [hs5, hg, show madeCells (Value.int IntKind.u8 0).cells (Int.toNat (N : Int) * 1) = (noughts N).toArray from by
    simp [madeCells, Value.cells]
    rw [Array.ext_iff]
    simp [Nat.mod_one]] at hms
  rw [Int.toNat_natCast] at hms
  obtain ⟨w1, hw1⟩ : ∃ w1, w.alloc (.cells (noughts N).toArray 5) = w1 := ⟨_, rfl⟩
  have HB1 := Lib.hid (show Below w.heap.size w w1 from hw1 ▸ below_alloc (Below.refl _ _) _)
  have HG1 := Lib.hid (show Blk w1 g 5 (noughts N) from hg ▸ hw1 ▸ Blk.new w 5 (noughts N))
  rw [hw1] at hms
  have HG := Lib.hid hg
  clear hC hg hw1 hi5 hz5 hs5 hby5 hN
  go_enter Tryd.func69, Tryd.ntmps69
  go_upto_region 2 with (fail)
  clear hms
  have HC1 := Lib.hid (Kd.C_below HC.out HB1.out)
  have HLN := Lib.hid (show (b.map b8).length = Nat.min N N from by rw [List.length_map, HN.out]; exact (Nat.min_self N).symm)
  have HPO := Lib.hid (show 0 < (b.map b8).length → ∃ ad, A = some ad ∧ ∀ j v, (b.map b8)[j]? = some v → w1.cell? (ad.add j) = some v from fun hp => by
    rw [List.length_map] at hp
    obtain ⟨ad, ha, hcell⟩ := HC1.out.2.2 hp
    refine ⟨ad, ha, fun j v hj => ?_⟩
    rw [List.getElem?_map] at hj
    cases hx : b[j]? with
    | none => rw [hx] at hj; simp at hj
    | some x =>
      rw [hx] at hj
      obtain rfl := (by simpa using hj : _ = v)
      obtain ⟨cs, hl1, hk, hc⟩ := hcell j x hx
      have hk' : cs = [Value.int .u8 x] := hk
      subst hk'
      have := hc 0 _ rfl
      rwa [show (Kd.int .u8).sz = 1 from rfl, Nat.mul_one, Nat.add_zero] at this)
  have HFT := Lib.hid (show 0 + (b.map b8).length ≤ (noughts N).length from by simp [HN.out])
  have HON := Lib.hid (show ∀ v ∈ b.map b8, v.oneCell' = true from fun v hv => by obtain ⟨x, _, rfl⟩ := List.mem_map.1 hv; rfl)
  have HBG := Lib.hid (show w.heap.size ≤ g from by rw [HG.out]; exact Nat.le_refl _)
  have HSP := Lib.hid (show splice (noughts N) 0 (b.map b8) = b.map b8 from by simp [splice, HN.out])
  go_wp2_with (refine wpList_copy_splice rfl (.tmp 7) (.tmp 8) 30 30 rfl 5 Tryd.underlying30 (by kernel_rfl) (some ⟨g, 0, none⟩) A N N N c rfl rfl g 0 (noughts N) 5 HG1.out (b.map b8) HLN.out (fun hp => ⟨rfl, HPO.out hp⟩) HFT.out HON.out w.heap.size w HB1.out HBG.out ?_; intro w2 hg2 hb2)
  rw [HSP.out] at hg2
  have HF2 := Lib.hid hb2
  clear hb2
  go_ret
  exact ⟨g, rfl, HBG.out, hg2.out, HF2.out⟩
theorem Src.take {k : Nat} {w : World} {A : Option Addr} {b : List Int} (h : Src k w A b) (n : Nat) : Src k w A (b.take n) := ⟨by rw [List.length_take]; have := h.1; omega, fun hp => by
  rw [List.length_take] at hp
  obtain ⟨ad, e, hk, hc⟩ := h.2 (by omega)
  refine ⟨ad, e, hk, fun j x hj => ?_⟩
  rw [List.getElem?_take] at hj
  split at hj
  · exact hc j x hj
  · cases hj⟩
theorem Src.of_blk {k g : Nat} {w : World} {b : List Int} (h : Blk w g 5 (b.map b8)) (hk : g ≠ k) (hl : b.length ≤ 140737488355328) : Src k w (some ⟨g, 0, none⟩) b := ⟨hl, fun hp => ⟨_, rfl, hk, fun j x hj => by
  rw [Addr.add_lit, Nat.zero_add, h.cell, List.getElem?_map, hj]
  rfl⟩⟩
set_option maxRecDepth 100000 in
set_option maxHeartbeats 4000000 in
theorem read_walk (b : List Int) (A : Option Addr) (c : Nat) (w : World) (hC : Kd.C kB w A b.length b) (hc : b.length ≤ c) (hl : b.length ≤ 1000000000) :
    Calls Tryd.prog 49 #[.slice A b.length c] w fun e w' => ∃ k A' c', e = .returned (.pointer (some ⟨k, 0, none⟩)) ∧ w.heap.size ≤ k ∧ RdAt w' k A' c' b 0 0 ∧ Below w.heap.size w w' := by
  have HTK := Lib.hid (taken_walk b A c w hC hc hl)
  obtain ⟨N, hN⟩ : ∃ N, b.length = N := ⟨_, rfl⟩
  have HN := Lib.hid hN
  rw [hN] at HTK hl ⊢
  clear hC hc hN
  go_enter Tryd.func49, Tryd.ntmps49
  go_wp2_with fail
  refine HTK.out.mono ?_
  rintro e w1 ⟨g, rfl, hg, hbk, hb⟩
  have HBK := Lib.hid hbk
  have HB := Lib.hid hb
  have HR := Lib.hid (Blk.new w1 129 [.slice (some ⟨g, 0, none⟩) N N, .int .i64 0, .int .i64 0])
  have HBN := Lib.hid (show Below w1.heap.size w1 (w1.alloc (.cells [.slice (some ⟨g, 0, none⟩) N N, .int .i64 0, .int .i64 0].toArray 129)) from below_alloc (Below.refl _ _) _)
  clear hbk hb
  go_wp2_with fail
  go_ret
  refine ⟨w1.heap.size, some ⟨g, 0, none⟩, N, rfl, HB.out.size, ⟨by rw [HN.out]; exact HR.out, by rw [HN.out]; exact Nat.le_refl _, ?_⟩, HB.out.trans (HBN.out.mono HB.out.size)⟩
  exact Src.of_blk (HBK.out.below HBN.out) (by have := HBK.out.lt; omega) (by rw [HN.out]; omega)
set_option maxRecDepth 100000 in
set_option maxHeartbeats 4000000 in
theorem left_walk (k : Nat) (A : Option Addr) (c : Nat) (b : List Int) (p m : Nat) (w : World) (h : RdAt w k A c b p m) (hp : p ≤ b.length) :
    Calls Tryd.prog 52 #[.pointer (some ⟨k, 0, none⟩)] w fun e w' => e = .returned (.int .i64 ((b.length - p : Nat) : Int)) ∧ Below w.heap.size w w' := by
  have hl := h.src.1
  have c0 : ∀ q : Cls w, q.at.cell? ⟨k, 0, none⟩ = some (.slice A b.length c) := fun q => q.cell (h.blk.cell 0)
  have c1 : ∀ q : Cls w, q.at.cell? ⟨k, 1, none⟩ = some (.int .i64 p) := fun q => q.cell (h.blk.cell 1)
  obtain ⟨N, hN⟩ : ∃ N, b.length = N := ⟨_, rfl⟩
  rw [hN] at hl c0 hp ⊢
  obtain ⟨d, hd⟩ : ∃ d, N - p = d := ⟨_, rfl⟩
  have hw : IntKind.i64.wrap ((N : Int) - (p : Int)) = (d : Int) := by rw [IntWalk.i64_in _ (by omega)]; omega
  rw [hd]
  clear h hN hd
  go_enter Tryd.func52, Tryd.ntmps52
  go_upto_region 1 with (fail)
  refine wp_region_cls (by kernel_rfl) (by kernel_rfl) ?_
  repeat (first | go_big_quiet_skip | go_big_quiet_step (fail))
  refine wpQuiet_nil ?_
  rintro wy ⟨q, rfl⟩
  have HB := Lib.hid q.below
  clear c0 c1 hw
  go_wp2_with fail
  go_ret
  exact ⟨rfl, HB.out⟩
set_option maxRecDepth 100000 in
set_option maxHeartbeats 4000000 in
/-- The next n bytes, where there are so many. -/
theorem next_walk (k : Nat) (A : Option Addr) (c : Nat) (b : List Int) (p n : Nat) (w : World) (h : RdAt w k A c b p 0) (hp : p + n ≤ b.length) (hl : b.length ≤ 1000000000) :
    Calls Tryd.prog 72 #[.pointer (some ⟨k, 0, none⟩), .int .i64 n] w fun e w' => ∃ A' c', e = .returned (.slice A' n c') ∧ n ≤ c' ∧ Src k w' A' ((b.drop p).take n) ∧ RdAt w' k A c b (p + n) 0 ∧ But k w w' := by
  have HH := Lib.hid h
  have HL := Lib.hid (left_walk k A c b p 0 w h (by omega))
  have c2 : w.cell? ⟨k, 2, none⟩ = some (.int .i64 0) := h.blk.cell 2
  have hcap := h.cap
  obtain ⟨N, hN⟩ : ∃ N, b.length = N := ⟨_, rfl⟩
  have HN := Lib.hid hN
  rw [hN] at HL hp hl hcap
  obtain ⟨d, hd⟩ : ∃ d, N - p = d := ⟨_, rfl⟩
  rw [hd] at HL
  have hnd : n ≤ d := by omega
  have hnd' : ¬ (d : Int) < (n : Int) := by omega
  clear h hN hd
  go_enter Tryd.func72, Tryd.ntmps72
  go_upto_region 6 with (go_at_call 52; refine HL.out.mono ?_; rintro e w1 ⟨rfl, hb⟩; have HB1 := Lib.hid hb; clear hb)
  have HR1 := Lib.hid (HH.out.below HB1.out)
  have r0 : ∀ q : Cls w1, q.at.cell? ⟨k, 0, none⟩ = some (.slice A N c) := fun q => q.cell (by have h9 := HR1.out.blk.cell 0; rw [HN.out] at h9; exact h9)
  have r1 : ∀ q : Cls w1, q.at.cell? ⟨k, 1, none⟩ = some (.int .i64 p) := fun q => q.cell (HR1.out.blk.cell 1)
  obtain ⟨s, hs⟩ : ∃ s, p + n = s := ⟨_, rfl⟩
  obtain ⟨c1, hc1⟩ : ∃ c1, c - p = c1 := ⟨_, rfl⟩
  obtain ⟨A1, hA1⟩ : ∃ A1, (if c = p then A else A.map (·.add p)) = A1 := ⟨_, rfl⟩
  obtain ⟨i5, hi5, _, hs5, _⟩ := info_parts info5
  have hsl := cut_mid (P := Tryd.prog) 30 5 .i64 .i64 Tryd.underlying30 hi5 1 hs5 A N c (p : Int) (s : Int) (by omega) (by omega) (by omega) hcap
  rw [Int.toNat_natCast, Int.toNat_natCast, show s - p = n by omega, hc1] at hsl
  simp only [Nat.mul_one] at hsl
  rw [hA1] at hsl
  have hw : IntKind.i64.wrap ((p : Int) + (n : Int)) = (s : Int) := by rw [IntWalk.i64_in _ (by omega)]; omega
  have hw2 : (p : Int) + (n : Int) = (s : Int) := by omega
  have HA1 := Lib.hid hA1
  have HS := Lib.hid hs
  have hnc : n ≤ c1 := by omega
  clear hi5 hs5 hA1 hs hc1 c2
  refine wp_region_cls (by kernel_rfl) (by kernel_rfl) ?_
  repeat (first | go_big_quiet_skip | go_big_quiet_step (fail))
  refine wpQuiet_nil ?_
  rintro wy ⟨q, rfl⟩
  have HR2 := Lib.hid (HR1.out.below q.below)
  have HB2 := Lib.hid (HB1.out.trans (q.below.mono HB1.out.size))
  obtain ⟨w2, hwq⟩ : ∃ w2, q.at = w2 := ⟨_, rfl⟩
  rw [hwq] at HR2 HB2 ⊢
  have s1 : w2.cell? ⟨k, 1, none⟩ = some (.int .i64 p) := HR2.out.blk.cell 1
  have f1 := HR2.out.blk.frozen 1
  clear hwq q r0 r1 hsl hw
  go_wp2_with fail
  go_ret
  refine ⟨A1, c1, rfl, hnc, ?_, ⟨?_, by rw [HN.out]; exact hcap, ?_⟩, (But.of_below HB2.out).set 1 _⟩
  · have h9 := (HR2.out.src.drop p c (by rw [HN.out]; exact hcap)).take n
    rw [HA1.out] at h9
    exact h9.but ((But.refl k w2).set 1 _)
  · have h9 := HR2.out.blk.set 1 (.int .i64 (s : Int))
    rw [HS.out]
    exact h9
  · exact HR2.out.src.but ((But.refl k w2).set 1 _)
set_option maxRecDepth 100000 in
set_option maxHeartbeats 4000000 in
/-- The first byte of a blob's encoding. -/
theorem u8_walk (k : Nat) (A : Option Addr) (c : Nat) (r : List Int) (w : World) (h : RdAt w k A c (1 :: r) 0 0) (hl : (1 :: r).length ≤ 1000000000) :
    Calls Tryd.prog 50 #[.pointer (some ⟨k, 0, none⟩)] w fun e w' => e = .returned (.int .u8 1) ∧ RdAt w' k A c (1 :: r) 1 0 ∧ But k w w' := by
  have HF := Lib.hid (show Calls Tryd.prog 70 #[.pointer (some ⟨k, 0, none⟩), .int .i64 1] w fun e w' => e = .returned (.int .u64 1) ∧ RdAt w' k A c (1 :: r) 1 0 ∧ But k w w' from by
    have HNX := Lib.hid (next_walk k A c (1 :: r) 0 1 w h (by simp) hl)
    clear h
    go_enter Tryd.func70, Tryd.ntmps70
    go_wp2_with fail
    refine HNX.out.mono ?_
    rintro e w1 ⟨A1, c1, rfl, hc1, hs, hr, hb⟩
    obtain ⟨ad, rfl, hadk, hcell⟩ := hs.2 (by simp)
    have e0 : w1.cell? ad = some (.int .u8 1) := by
      have := hcell 0 1 rfl
      simpa [Addr.add] using this
    have HR := Lib.hid hr
    have HB := Lib.hid hb
    clear hs hr hb hcell hadk
    go_wp2_with fail
    go_loopw [5, 12] (fun v5 v12 wr => ∃ i : Nat, i ≤ 1 ∧ v12 = .int .i64 i ∧ v5 = .int .u64 i ∧ wr = w1) (fun _ v12 _ => 1 - (RowKit.intOf v12).toNat)
    case atStart => exact ⟨0, by decide, rfl, rfl, rfl⟩
    case round =>
      obtain ⟨i, hi, rfl, rfl, rfl⟩ := hrel
      by_cases hlt : i < 1
      · obtain rfl : i = 0 := by omega
        have hbits : Go.bits .or .u64 0 1 = 1 := by decide +kernel
        rw [show ((0 : Nat) : Int) = 0 from rfl]
        go_wp2_with fail
        go_roundw
        case rel => exact ⟨1, by decide, rfl, rfl, trivial⟩
        all_goals (simp only [RowKit.intOf]; omega)
      · obtain rfl : i = 1 := by omega
        rw [show ((1 : Nat) : Int) = 1 from rfl]
        go_wp2_with fail
        go_ret
        exact ⟨rfl, HR.out, HB.out⟩)
  clear h
  go_enter Tryd.func50, Tryd.ntmps50
  go_wp2_with fail
  refine HF.out.mono ?_
  rintro e w1 ⟨rfl, hr, hb⟩
  have HR := Lib.hid hr
  have HB := Lib.hid hb
  clear hr hb
  go_wp2_with fail
  go_ret
  exact ⟨rfl, HR.out, HB.out⟩
set_option maxRecDepth 100000 in
set_option maxHeartbeats 4000000 in
/-- All the bytes that are left, in new memory. -/
theorem raw_walk (k : Nat) (A : Option Addr) (c : Nat) (b : List Int) (p n : Nat) (w : World) (h : RdAt w k A c b p 0) (hp : p + n ≤ b.length) (hl : b.length ≤ 1000000000) :
    Calls Tryd.prog 51 #[.pointer (some ⟨k, 0, none⟩), .int .i64 n] w fun e w' => ∃ g, e = .returned (.slice (some ⟨g, 0, none⟩) n n) ∧ w.heap.size ≤ g ∧ Blk w' g 5 (((b.drop p).take n).map b8) ∧ RdAt w' k A c b (p + n) 0 ∧ But k w w' := by
  have HNX := Lib.hid (next_walk k A c b p n w h hp hl)
  have hn0 : ¬ (n : Int) < 0 := by omega
  have hnl : ((b.drop p).take n).length = n := by rw [List.length_take, List.length_drop]; omega
  obtain ⟨x, hx⟩ : ∃ x, (b.drop p).take n = x := ⟨_, rfl⟩
  rw [hx] at HNX hnl ⊢
  have HNL := Lib.hid hnl
  clear h hx hnl
  go_enter Tryd.func51, Tryd.ntmps51
  go_wp2_with fail
  refine HNX.out.mono ?_
  rintro e w1 ⟨A1, c1, rfl, hc1, hs, hr, hb⟩
  have htk := taken_walk x A1 c1 w1 hs.C (by rw [HNL.out]; exact hc1) (by rw [HNL.out]; omega)
  rw [HNL.out] at htk
  have HTK := Lib.hid htk
  have HR := Lib.hid hr
  have HB := Lib.hid hb
  clear hs hr hb htk
  go_wp2_with fail
  refine HTK.out.mono ?_
  rintro e w2 ⟨g, rfl, hg, hbk, hb⟩
  have HBK := Lib.hid hbk
  have HB2 := Lib.hid hb
  have hgs : w.heap.size ≤ g := Nat.le_trans HB.out.size hg
  clear hbk hb
  go_wp2_with fail
  go_ret
  exact ⟨g, rfl, hgs, HBK.out, HR.out.below HB2.out, HB.out.trans (But.of_below HB2.out)⟩
set_option maxRecDepth 100000 in
set_option maxHeartbeats 4000000 in
/-- At the end, without a fault. -/
theorem end_walk (k : Nat) (A : Option Addr) (c : Nat) (b : List Int) (w : World) (h : RdAt w k A c b b.length 0) (hl : b.length ≤ 1000000000) (he : w.cell? ⟨3, 0, none⟩ = some (.int .i64 0)) :
    Calls Tryd.prog 56 #[.pointer (some ⟨k, 0, none⟩)] w fun e w' => e = .returned (.int .i64 0) ∧ Below w.heap.size w w' := by
  have HLF := Lib.hid (left_walk k A c b b.length 0 w h (Nat.le_refl _))
  have HFA := Lib.hid (fun W (hb : Below w.heap.size w W) => (show Calls Tryd.prog 74 #[.pointer (some ⟨k, 0, none⟩)] W fun e w' => e = .returned (.int .i64 0) ∧ W = w' from by
    have c2 : W.cell? ⟨k, 2, none⟩ = some (.int .i64 0) := (h.below hb).blk.cell 2
    have e0 := pw_cell_below hb he
    clear HLF h he
    go_enter Tryd.func74, Tryd.ntmps74
    go_wp2_with fail
    go_ret
    exact ⟨rfl, rfl⟩))
  have c2 : w.cell? ⟨k, 2, none⟩ = some (.int .i64 0) := h.blk.cell 2
  rw [Nat.sub_self, show ((0 : Nat) : Int) = 0 from rfl] at HLF
  clear h he
  go_enter Tryd.func56, Tryd.ntmps56
  go_upto_region 3 with (go_at_call 52; refine HLF.out.mono ?_; rintro e w1 ⟨rfl, hb⟩; have HB1 := Lib.hid hb; clear hb)
  go_wp2_with fail
  refine (HFA.out _ HB1.out).mono ?_
  rintro e w2 ⟨rfl, rfl⟩
  go_wp2_with fail
  go_ret
  exact ⟨rfl, HB1.out⟩
end Go.Proofs.YtfbkkcigkpffiaaDoor.St
