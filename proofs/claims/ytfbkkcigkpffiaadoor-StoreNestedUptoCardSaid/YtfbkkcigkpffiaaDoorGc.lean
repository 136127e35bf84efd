/- The walks of code's Reader, as far as a blob wants them. -/
import Derived.Test.YtfbkkcigkpffiaaDoorGb
import Derived.Lib.Bytes
import Derived.Deep.RegionHeld3
import Derived.Deep.RegionLaw
namespace Go.Proofs.YtfbkkcigkpffiaaDoor.St
open Go Go.Lib Go.RowKit Go.ChangeMaps Go.Proofs.YtfbkkcigkpffiaaDoorW.PrintWords Go.Proofs.YtfbkkcigkpffiaaDoorW.PrintLast Go.Proofs.YtfbkkcigkpffiaaDoorW.PrintMore Go.Proofs.YtfbkkcigkpffiaaDoor.PStoreMany
set_option linter.unusedVariables false
set_option linter.unusedSimpArgs false
/-- A reader: its bytes, where it stands, what it has met. -/
structure RdAt (w : World) (k : Nat) (A : Option Addr) (c : Nat) (b : List Int) (p m : Nat) : Prop where
  blk : Blk w k 129 [.slice A b.length c, .int .i64 p, .int .i64 m]
  cap : b.length ≤ c
  src : Src k w A b
theorem RdAt.below {w w' : World} {k : Nat} {A : Option Addr} {c : Nat} {b : List Int} {p m : Nat} (h : RdAt w k A c b p m) (hb : Below w.heap.size w w') : RdAt w' k A c b p m := ⟨h.blk.below hb, h.cap, h.src.but (But.of_below hb)⟩
theorem Src.C {k : Nat} {w : World} {A : Option Addr} {b : List Int} (h : Src k w A b) : Kd.C kB w A b.length b :=
  ⟨rfl, by have := h.1; omega, fun hp => by
    obtain ⟨ad, e, _, hc⟩ := h.2 hp
    refine ⟨ad, e, fun j x hj => ⟨[b8 x], rfl, rfl, fun i v hv => ?_⟩⟩
    obtain ⟨hi, rfl⟩ := List.getElem?_eq_some_iff.1 hv
    have hi0 : i = 0 := by simpa using hi
    subst hi0
    show w.cell? (ad.add (j * 1 + 0)) = _
    rw [Nat.mul_one, Nat.add_zero]
    exact hc j x hj⟩
set_option maxRecDepth 100000 in
set_option maxHeartbeats 4000000 in
/-- Bytes in new memory. -/
theorem taken_walk (b : List Int) (A : Option Addr) (c : Nat) (w : World) (hC : Kd.C kB w A b.length b) (hc : b.length ≤ c) (hl : b.length ≤ 1000000000) :
    Calls Tryd.prog 69 #[.slice A b.length c] w fun e w' => ∃ g, e = .returned (.slice (some ⟨g, 0, none⟩) b.length b.length) ∧ w.heap.size ≤ g ∧ Blk w' g 5 (b.map b8) ∧ Below w.heap.size w w' := by
  have HC := Lib.hid hC
  obtain ⟨N, hN⟩ : ∃ N, b.length = N := ⟨_, rfl⟩
  have HN := Lib.hid hN
  rw [hN] at hc hl ⊢
  obtain ⟨g, hg⟩ : ∃ g, w.heap.size = g := ⟨_, rfl⟩
  obtain ⟨i5, hi5, hz5, hs5, hby5⟩ := info_parts info5
  have hms := run_make (P := Tryd.prog) (w := w) 30 5 i5 (.int .u8 0) Tryd.underlying30 hi5 hz5 .i64 .i64 (N : Int) (N : Int) (by omega) (by omega) (by rw [hby5]; omega) (by omega)
  rw [hs5, hg, show madeCells (Value.int IntKind.u8 0).cells (Int.toNat (N : Int) * 1) = (noughts N).toArray from by
    simp [madeCells, Value.cells]
    rw [Array.ext_iff]
    simp [Nat.mod_one]] at hms
  rw [Int.toNat_natCast] at hms
  obtain ⟨w1, hw1⟩ : ∃ w1, w.alloc (.cells (noughts N).toArray 5) = w1 := ⟨_, rfl⟩
  have HB1 := Lib.hid (show Below w.heap.size w w1 from hw1 ▸ below_alloc (Below.refl _ _) _)
  have HG1 := Lib.hid (show Blk w1 g 5 (noughts N) from hg ▸ hw1 ▸ Blk.new w 5 (noughts N))
  rw [hw1] at hms
  have HG := Lib.hid hg
  clear hC hg hw1 hi5 hz5 hs5 hby5 hN
  go_enter Tryd.func69, Tryd.ntmps69
  go_upto_region 2 with (fail)
  clear hms
  have HC1 := Lib.hid (Kd.C_below HC.out HB1.out)
  have HLN := Lib.hid (show (b.map b8).length = Nat.min N N from by rw [List.length_map, HN.out]; exact (Nat.min_self N).symm)
  have HPO := Lib.hid (show 0 < (b.map b8).length → ∃ ad, A = some ad ∧ ∀ j v, (b.map b8)[j]? = some v → w1.cell? (ad.add j) = some v from fun hp => by
    rw [List.length_map] at hp
    obtain ⟨ad, ha, hcell⟩ := HC1.out.2.2 hp
    refine ⟨ad, ha, fun j v hj => ?_⟩
    rw [List.getElem?_map] at hj
    cases hx : b[j]? with
    | none => rw [hx] at hj; simp at hj
    | some x =>
      rw [hx] at hj
      obtain rfl := (by simpa using hj : _ = v)
      obtain ⟨cs, hl1, hk, hc⟩ := hcell j x hx
      have hk' : cs = [Value.int .u8 x] := hk
      subst hk'
      have := hc 0 _ rfl
      rwa [show (Kd.int .u8).sz = 1 from rfl, Nat.mul_one, Nat.add_zero] at this)
  have HFT := Lib.hid (show 0 + (b.map b8).length ≤ (noughts N).length from by simp [HN.out])
  have HON := Lib.hid (show ∀ v ∈ b.map b8, v.oneCell' = true from fun v hv => by obtain ⟨x, _, rfl⟩ := List.mem_map.1 hv; rfl)
  have HBG := Lib.hid (show w.heap.size ≤ g from by rw [HG.out]; exact Nat.le_refl _)
  have HSP := Lib.hid (show splice (noughts N) 0 (b.map b8) = b.map b8 from by simp [splice, HN.out])
  go_wp2_with (refine wpList_copy_splice rfl (.tmp 7) (.tmp 8) 30 30 rfl 5 Tryd.underlying30 (by kernel_rfl) (some ⟨g, 0, none⟩) A N N N c rfl rfl g 0 (noughts N) 5 HG1.out (b.map b8) HLN.out (fun hp => ⟨rfl, HPO.out hp⟩) HFT.out HON.out w.heap.size w HB1.out HBG.out ?_; intro w2 hg2 hb2)
  rw [HSP.out] at hg2
  have HF2 := Lib.hid hb2
  clear hb2
  go_ret
  exact ⟨g, rfl, HBG.out, hg2.out, HF2.out⟩
theorem Src.take {k : Nat} {w : World} {A : Option Addr} {b : List Int} (h : Src k w A b) (n : Nat) : Src k w A (b.take n) := ⟨by rw [List.length_take]; have := h.1; omega, fun hp => by
  rw [List.length_take] at hp
  obtain ⟨ad, e, hk, hc⟩ := h.2 (by omega)
  refine ⟨ad, e, hk, fun j x hj => ?_⟩
  rw [List.getElem?_take] at hj
  split at hj
  · exact hc j x hj
  · cases hj⟩
theorem Src.of_blk {k g : Nat} {w : World} {b : List Int} (h : Blk w g 5 (b.map b8)) (hk : g ≠ k) (hl : b.length ≤ 140737488355328) : Src k w (some ⟨g, 0, none⟩) b := ⟨hl, fun hp => ⟨_, rfl, hk, fun j x hj => by
  rw [Addr.add_lit, Nat.zero_add, h.cell, List.getElem?_map, hj]
  rfl⟩⟩
set_option maxRecDepth 100000 in
set_option maxHeartbeats 4000000 in
theorem read_walk (b : List Int) (A : Option Addr) (c : Nat) (w : World) (hC : Kd.C kB w A b.length b) (hc : b.length ≤ c) (hl : b.length ≤ 1000000000) :
    Calls Tryd.prog 49 #[.slice A b.length c] w fun e w' => ∃ k A' c', e = .returned (.pointer (some ⟨k, 0, none⟩)) ∧ w.heap.size ≤ k ∧ RdAt w' k A' c' b 0 0 ∧ Below w.heap.size w w' := by
  have HTK := Lib.hid (taken_walk b A c w hC hc hl)
  obtain ⟨N, hN⟩ : ∃ N, b.length = N := ⟨_, rfl⟩
  have HN := Lib.hid hN
  rw [hN] at HTK hl ⊢
  clear hC hc hN
  go_enter Tryd.func49, Tryd.ntmps49
  go_wp2_with fail
  refine HTK.out.mono ?_
  rintro e w1 ⟨g, rfl, hg, hbk, hb⟩
  have HBK := Lib.hid hbk
  have HB := Lib.hid hb
  have HR := Lib.hid (Blk.new w1 129 [.slice (some ⟨g, 0, none⟩) N N, .int .i64 0, .int .i64 0])
  have HBN := Lib.hid (show Below w1.heap.size w1 (w1.alloc (.cells [.slice (some ⟨g, 0, none⟩) N N, .int .i64 0, .int .i64 0].toArray 129)) from below_alloc (Below.refl _ _) _)
  clear hbk hb
  go_wp2_with fail
  go_ret
  refine ⟨w1.heap.size, some ⟨g, 0, none⟩, N, rfl, HB.out.size, ⟨by rw [HN.out]; exact HR.out, by rw [HN.out]; exact Nat.le_refl _, ?_⟩, HB.out.trans (HBN.out.mono HB.out.size)⟩
  exact Src.of_blk (HBK.out.below HBN.out) (by have := HBK.out.lt; omega) (by rw [HN.out]; omega)
set_option maxRecDepth 100000 in
set_option maxHeartbeats 4000000 in
theorem left_walk (k : Nat) (A : Option Addr) (c : Nat) (b : List Int) (p m : Nat) (w : World) (h : RdAt w k A c b p m) (hp : p ≤ b.length) :
    Calls Tryd.prog 52 #[.pointer (some ⟨k, 0, none⟩)] w fun e w' => e = .returned (.int .i64 ((b.length - p : Nat) : Int)) ∧ Below w.heap.size w w' := by
  have hl := h.src.1
  have c0 : ∀ q : Cls w, q.at.cell? ⟨k, 0, none⟩ = some (.slice A b.length c) := fun q => q.cell (h.blk.cell 0)
  have c1 : ∀ q : Cls w, q.at.cell? ⟨k, 1, none⟩ = some (.int .i64 p) := fun q => q.cell (h.blk.cell 1)
  obtain ⟨N, hN⟩ : ∃ N, b.length = N := ⟨_, rfl⟩
  rw [hN] at hl c0 hp ⊢
  obtain ⟨d, hd⟩ : ∃ d, N - p = d := ⟨_, rfl⟩
  have hw : IntKind.i64.wrap ((N : Int) - (p : Int)) = (d : Int) := by rw [IntWalk.i64_in _ (by omega)]; omega
  rw [hd]
  clear h hN hd
  go_enter Tryd.func52, Tryd.ntmps52
  go_upto_region 1 with (fail)
  refine wp_region_cls (by kernel_rfl) (by kernel_rfl) ?_
  repeat (first | go_big_quiet_skip | go_big_quiet_step (fail))
  refine wpQuiet_nil ?_
  rintro wy ⟨q, rfl⟩
  have HB := Lib.hid q.below
  clear c0 c1 hw
  go_wp2_with fail
  go_ret
  exact ⟨rfl, HB.out⟩
set_option maxRecDepth 100000 in
set_option maxHeartbeats 4000000 in
/-- The next n bytes, where there are so many. -/
theorem next_walk (k : Nat) (A : Option Addr) (c : Nat) (b : List Int) (p n : Nat) (w : World) (h : RdAt w k A c b p 0) (hp : p + n ≤ b.length) (hl : b.length ≤ 1000000000) :
    Calls Tryd.prog 72 #[.pointer (some ⟨k, 0, none⟩), .int .i64 n] w fun e w' => ∃ A' c', e = .returned (.slice A' n c') ∧ n ≤ c' ∧ Src k w' A' ((b.drop p).take n) ∧ RdAt w' k A c b (p + n) 0 ∧ But k w w' := by
  have HH := Lib.hid h
  have HL := Lib.hid (left_walk k A c b p 0 w h (by omega))
  have c2 : w.cell? ⟨k, 2, none⟩ = some (.int .i64 0) := h.blk.cell 2
  have hcap := h.cap
  obtain ⟨N, hN⟩ : ∃ N, b.length = N := ⟨_, rfl⟩
  have HN := Lib.hid hN
  rw [hN] at HL hp hl hcap
  obtain ⟨d, hd⟩ : ∃ d, N - p = d := ⟨_, rfl⟩
  rw [hd] at HL
  have hnd : n ≤ d := by omega
  have hnd' : ¬ (d : Int) < (n : Int) := by omega
  clear h hN hd
  go_enter Tryd.func72, Tryd.ntmps72
  go_upto_region 6 with (go_at_call 52; refine HL.out.mono ?_; rintro e w1 ⟨rfl, hb⟩; have HB1 := Lib.hid hb; clear hb)
  have HR1 := Lib.hid (HH.out.below HB1.out)
  have r0 : ∀ q : Cls w1, q.at.cell? ⟨k, 0, none⟩ = some (.slice A N c) := fun q => q.cell (by have h9 := HR1.out.blk.cell 0; rw [HN.out] at h9; exact h9)
  have r1 : ∀ q : Cls w1, q.at.cell? ⟨k, 1, none⟩ = some (.int .i64 p) := fun q => q.cell (HR1.out.blk.cell 1)
  obtain ⟨s, hs⟩ : ∃ s, p + n = s := ⟨_, rfl⟩
  obtain ⟨c1, hc1⟩ : ∃ c1, c - p = c1 := ⟨_, rfl⟩
  obtain ⟨A1, hA1⟩ : ∃ A1, (if c = p then A else A.map (·.add p)) = A1 := ⟨_, rfl⟩
  obtain ⟨i5, hi5, _, hs5, _⟩ := info_parts info5
  have hsl := cut_mid (P := Tryd.prog) 30 5 .i64 .i64 Tryd.underlying30 hi5 1 hs5 A N c (p : Int) (s : Int) (by omega) (by omega) (by omega) hcap
  rw [Int.toNat_natCast, Int.toNat_natCast, show s - p = n by omega, hc1] at hsl
  simp only [Nat.mul_one] at hsl
  rw [hA1] at hsl
  have hw : IntKind.i64.wrap ((p : Int) + (n : Int)) = (s : Int) := by rw [IntWalk.i64_in _ (by omega)]; omega
  have hw2 : (p : Int) + (n : Int) = (s : Int) := by omega
  have HA1 := Lib.hid hA1
  have HS := Lib.hid hs
  have hnc : n ≤ c1 := by omega
  clear hi5 hs5 hA1 hs hc1 c2
  refine wp_region_cls (by kernel_rfl) (by kernel_rfl) ?_
  repeat (first | go_big_quiet_skip | go_big_quiet_step (fail))
  refine wpQuiet_nil ?_
  rintro wy ⟨q, rfl⟩
  have HR2 := Lib.hid (HR1.out.below q.below)
  have HB2 := Lib.hid (HB1.out.trans (q.below.mono HB1.out.size))
  obtain ⟨w2, hwq⟩ : ∃ w2, q.at = w2 := ⟨_, rfl⟩
  rw [hwq] at HR2 HB2 ⊢
  have s1 : w2.cell? ⟨k, 1, none⟩ = some (.int .i64 p) := HR2.out.blk.cell 1
  have f1 := HR2.out.blk.frozen 1
  clear hwq q r0 r1 hsl hw
  go_wp2_with fail
  go_ret
  refine ⟨A1, c1, rfl, hnc, ?_, ⟨?_, by rw [HN.out]; exact hcap, ?_⟩, (But.of_below HB2.out).set 1 _⟩
  · have h9 := (HR2.out.src.drop p c (by rw [HN.out]; exact hcap)).take n
    rw [HA1.out] at h9
    exact h9.but ((But.refl k w2).set 1 _)
  · have h9 := HR2.out.blk.set 1 (.int .i64 (s : Int))
    rw [HS.out]
    exact h9
  · exact HR2.out.src.but ((But.refl k w2).set 1 _)
set_option maxRecDepth 100000 in
set_option maxHeartbeats 4000000 in
/-- The first byte of a blob's encoding. -/
theorem u8_walk (k : Nat) (A : Option Addr) (c : Nat) (r : List Int) (w : World) (h : RdAt w k A c (1 :: r) 0 0) (hl : (1 :: r).length ≤ 1000000000) :
    Calls Tryd.prog 50 #[.pointer (some ⟨k, 0, none⟩)] w fun e w' => e = .returned (.int .u8 1) ∧ RdAt w' k A c (1 :: r) 1 0 ∧ But k w w' := by
  have HF := Lib.hid (show Calls Tryd.prog 70 #[.pointer (some ⟨k, 0, none⟩), .int .i64 1] w fun e w' => e = .returned (.int .u64 1) ∧ RdAt w' k A c (1 :: r) 1 0 ∧ But k w w' from by
    have HNX := Lib.hid (next_walk k A c (1 :: r) 0 1 w h (by simp) hl)
    clear h
    go_enter Tryd.func70, Tryd.ntmps70
    go_wp2_with fail
    refine HNX.out.mono ?_
    rintro e w1 ⟨A1, c1, rfl, hc1, hs, hr, hb⟩
    obtain ⟨ad, rfl, hadk, hcell⟩ := hs.2 (by simp)
    have e0 : w1.cell? ad = some (.int .u8 1) := by
      have := hcell 0 1 rfl
      simpa [Addr.add] using this
    have HR := Lib.hid hr
    have HB := Lib.hid hb
    clear hs hr hb hcell hadk
    go_wp2_with fail
    go_loopw [5, 12] (fun v5 v12 wr => ∃ i : Nat, i ≤ 1 ∧ v12 = .int .i64 i ∧ v5 = .int .u64 i ∧ wr = w1) (fun _ v12 _ => 1 - (RowKit.intOf v12).toNat)
    case atStart => exact ⟨0, by decide, rfl, rfl, rfl⟩
    case round =>
      obtain ⟨i, hi, rfl, rfl, rfl⟩ := hrel
      by_cases hlt : i < 1
      · obtain rfl : i = 0 := by omega
        have hbits : Go.bits .or .u64 0 1 = 1 := by decide +kernel
        rw [show ((0 : Nat) : Int) = 0 from rfl]
        go_wp2_with fail
        go_roundw
        case rel => exact ⟨1, by decide, rfl, rfl, trivial⟩
        all_goals (simp only [RowKit.intOf]; omega)
      · obtain rfl : i = 1 := by omega
        rw [show ((1 : Nat) : Int) = 1 from rfl]
        go_wp2_with fail
        go_ret
        exact ⟨rfl, HR.out, HB.out⟩)
  clear h
  go_enter Tryd.func50, Tryd.ntmps50
  go_wp2_with fail
  refine HF.out.mono ?_
  rintro e w1 ⟨rfl, hr, hb⟩
  have HR := Lib.hid hr
  have HB := Lib.hid hb
  clear hr hb
  go_wp2_with fail
  go_ret
  exact ⟨rfl, HR.out, HB.out⟩
set_option maxRecDepth 100000 in
set_option maxHeartbeats 4000000 in
/-- All the bytes that are left, in new memory. -/
theorem raw_walk (k : Nat) (A : Option Addr) (c : Nat) (b : List Int) (p n : Nat) (w : World) (h : RdAt w k A c b p 0) (hp : p + n ≤ b.length) (hl : b.length ≤ 1000000000) :
    Calls Tryd.prog 51 #[.pointer (some ⟨k, 0, none⟩), .int .i64 n] w fun e w' => ∃ g, e = .returned (.slice (some ⟨g, 0, none⟩) n n) ∧ w.heap.size ≤ g ∧ Blk w' g 5 (((b.drop p).take n).map b8) ∧ RdAt w' k A c b (p + n) 0 ∧ But k w w' := by
  have HNX := Lib.hid (next_walk k A c b p n w h hp hl)
  have hn0 : ¬ (n : Int) < 0 := by omega
  have hnl : ((b.drop p).take n).length = n := by rw [List.length_take, List.length_drop]; omega
  obtain ⟨x, hx⟩ : ∃ x, (b.drop p).take n = x := ⟨_, rfl⟩
  rw [hx] at HNX hnl ⊢
  have HNL := Lib.hid hnl
  clear h hx hnl
  go_enter Tryd.func51, Tryd.ntmps51
  go_wp2_with fail
  refine HNX.out.mono ?_
  rintro e w1 ⟨A1, c1, rfl, hc1, hs, hr, hb⟩
  have htk := taken_walk x A1 c1 w1 hs.C (by rw [HNL.out]; exact hc1) (by rw [HNL.out]; omega)
  rw [HNL.out] at htk
  have HTK := Lib.hid htk
  have HR := Lib.hid hr
  have HB := Lib.hid hb
  clear hs hr hb htk
  go_wp2_with fail
  refine HTK.out.mono ?_
  rintro e w2 ⟨g, rfl, hg, hbk, hb⟩
  have HBK := Lib.hid hbk
  have HB2 := Lib.hid hb
  have hgs : w.heap.size ≤ g := Nat.le_trans HB.out.size hg
  clear hbk hb
  go_wp2_with fail
  go_ret
  exact ⟨g, rfl, hgs, HBK.out, HR.out.below HB2.out, HB.out.trans (But.of_below HB2.out)⟩
set_option maxRecDepth 100000 in
set_option maxHeartbeats 4000000 in
/-- At the end, without a fault. -/
theorem end_walk (k : Nat) (A : Option Addr) (c : Nat) (b : List Int) (w : World) (h : RdAt w k A c b b.length 0) (hl : b.length ≤ 1000000000) (he : w.cell? ⟨3, 0, none⟩ = some (.int .i64 0)) :
    Calls Tryd.prog 56 #[.pointer (some ⟨k, 0, none⟩)] w fun e w' => e = .returned (.int .i64 0) ∧ Below w.heap.size w w' := by
  have HLF := Lib.hid (left_walk k A c b b.length 0 w h (Nat.le_refl _))
  have HFA := Lib.hid (fun W (hb : Below w.heap.size w W) => (show Calls Tryd.prog 74 #[.pointer (some ⟨k, 0, none⟩)] W fun e w' => e = .returned (.int .i64 0) ∧ W = w' from by
    have c2 : W.cell? ⟨k, 2, none⟩ = some (.int .i64 0) := (h.below hb).blk.cell 2
    have e0 := pw_cell_below hb he
    clear HLF h he
    go_enter Tryd.func74, Tryd.ntmps74
    go_wp2_with fail
    go_ret
    exact ⟨rfl, rfl⟩))
  have c2 : w.cell? ⟨k, 2, none⟩ = some (.int .i64 0) := h.blk.cell 2
  rw [Nat.sub_self, show ((0 : Nat) : Int) = 0 from rfl] at HLF
  clear h he
  go_enter Tryd.func56, Tryd.ntmps56
  go_upto_region 3 with (go_at_call 52; refine HLF.out.mono ?_; rintro e w1 ⟨rfl, hb⟩; have HB1 := Lib.hid hb; clear hb)
  go_wp2_with fail
  refine (HFA.out _ HB1.out).mono ?_
  rintro e w2 ⟨rfl, rfl⟩
  go_wp2_with fail
  go_ret
  exact ⟨rfl, HB1.out⟩
end Go.Proofs.YtfbkkcigkpffiaaDoor.St

namespace Go.Proofs.YtfbkkcigkpffiaaDoor.St
open Go Go.Lib Go.RowKit Go.ChangeMaps Go.Proofs.YtfbkkcigkpffiaaDoorW.PrintWords Go.Proofs.YtfbkkcigkpffiaaDoorW.PrintLast Go.Proofs.YtfbkkcigkpffiaaDoorW.PrintMore Go.Proofs.YtfbkkcigkpffiaaDoor.PStoreMany
set_option linter.unusedVariables false
set_option linter.unusedSimpArgs false
theorem check_blob (A : Option Addr) (n c : Nat) (w : World) : (method 279 104 (.slice A n c) "satchel/object.check").run Tryd.prog w = .ok (102, .slice A n c) w := by kernel_rfl
set_option maxRecDepth 100000 in
set_option maxHeartbeats 4000000 in
theorem blobcheck_walk (v : Value) (w : World) : Calls Tryd.prog 102 #[v] w fun e w' => e = .returned (.int .i64 0) ∧ w = w' := by
  go_enter Tryd.func102, Tryd.ntmps102
  go_wp2_with fail
  go_ret
  exact ⟨rfl, rfl⟩
set_option maxRecDepth 100000 in
set_option maxHeartbeats 4000000 in
theorem parse_walk (r : List Int) (A : Option Addr) (c : Nat) (w : World) (hC : Kd.C kB w A (1 :: r).length (1 :: r)) (hc : (1 :: r).length ≤ c) (hl : (1 :: r).length ≤ 65536) (he : w.cell? ⟨3, 0, none⟩ = some (.int .i64 0)) :
    Calls Tryd.prog 41 #[.slice A (1 :: r).length c] w fun e w' => ∃ g n, e = .returned (.tuple #[.iface 104 (.slice (some ⟨g, 0, none⟩) n n), .int .i64 0]) ∧ Below w.heap.size w w' := by
  have HRD := Lib.hid (read_walk (1 :: r) A c w hC hc (by omega))
  obtain ⟨b, hb⟩ : ∃ b, b = 1 :: r := ⟨_, rfl⟩
  have HBB := Lib.hid hb
  rw [← hb] at HRD hc hl ⊢
  obtain ⟨N, hN⟩ : ∃ N, b.length = N := ⟨_, rfl⟩
  have HN := Lib.hid hN
  rw [hN] at HRD hc hl ⊢
  have HE := Lib.hid he
  clear hC hb hN he
  go_enter Tryd.func41, Tryd.ntmps41
  go_wp2_with fail
  refine HRD.out.mono ?_
  rintro e w1 ⟨k, A1, c1, rfl, hk, hr, hb⟩
  have HR1 := Lib.hid hr
  have HB1 := Lib.hid hb
  have HK := Lib.hid hk
  have HU := Lib.hid (u8_walk k A1 c1 r w1 (HBB.out ▸ hr) (by rw [← HBB.out, HN.out]; omega))
  clear hk hr hb
  go_wp2_with fail
  refine HU.out.mono ?_
  rintro e w2 ⟨rfl, hr, hb⟩
  have HR2 := Lib.hid (show RdAt w2 k A1 c1 b 1 0 from HBB.out ▸ hr)
  have HB2 := Lib.hid hb
  have hN0 : 1 ≤ N := by rw [← HN.out, HBB.out]; simp
  have HLF := Lib.hid (left_walk k A1 c1 b 1 0 w2 HR2.out (by rw [HN.out]; exact hN0))
  rw [HN.out] at HLF
  obtain ⟨d, hd⟩ : ∃ d, N - 1 = d := ⟨_, rfl⟩
  rw [hd] at HLF
  have hd1 : 1 + d = N := by omega
  clear hr hb HU hd
  go_wp2_with fail
  refine HLF.out.mono ?_
  rintro e w3 ⟨rfl, hb⟩
  have HB3 := Lib.hid hb
  have HR3 := Lib.hid (HR2.out.below hb)
  have HRW := Lib.hid (raw_walk k A1 c1 b 1 d w3 HR3.out (by rw [HN.out]; omega) (by rw [HN.out]; omega))
  clear hb
  go_wp2_with fail
  refine HRW.out.mono ?_
  rintro e w4 ⟨g, rfl, hg, hbk, hr, hb⟩
  have HR4 := Lib.hid (show RdAt w4 k A1 c1 b b.length 0 from by rw [HN.out, ← hd1]; exact hr)
  have HB4 := Lib.hid hb
  have HW4 := Lib.hid (show Below w.heap.size w w4 from by
    have b2 : Below w.heap.size w1 w2 := HB2.out.below_of HK.out HB1.out.size
    have b3 : Below w.heap.size w2 w3 := HB3.out.mono (by have := b2.size; have := HB1.out.size; omega)
    have b4 : Below w.heap.size w3 w4 := HB4.out.below_of HK.out (by have := b2.size; have := b3.size; have := HB1.out.size; omega)
    exact ((HB1.out.trans b2).trans b3).trans b4)
  have HEN := Lib.hid (end_walk k A1 c1 b w4 HR4.out (by rw [HN.out]; omega) (pw_cell_below HW4.out HE.out))
  clear hg hbk hr hb HRW HLF
  go_wp2_with fail
  refine HEN.out.mono ?_
  rintro e w5 ⟨rfl, hb⟩
  have HB5 := Lib.hid (HW4.out.trans (hb.mono HW4.out.size))
  clear hb HEN
  have hm := fun W => check_blob (some ⟨g, 0, none⟩) d d W
  go_wp2_with (go_at_call 102; refine (blobcheck_walk _ _).mono ?_; rintro e w6 ⟨rfl, rfl⟩)
  go_ret2
  exact ⟨g, d, rfl, HB5.out⟩
/-- A blob as an object. -/
noncomputable def objC (v : Value) : List Value := (Tryd.zeroCells80.toList.set 0 (.int .i64 1)).set 1 v
theorem zero80 : Tryd.zeroCells80.toList.length = 76 := by kernel_rfl
theorem zero80one : Tryd.zeroCells80.toList.all (·.oneCell') = true := by kernel_rfl
theorem size80 : (Tryd.prog.info? 80).map (·.size) = some 76 := by kernel_rfl
theorem objC_len (v : Value) : (objC v).length = 76 := by unfold objC; rw [List.length_set, List.length_set, zero80]
theorem objC_one (v : Value) (hv : v.oneCell' = true) : ∀ u ∈ objC v, u.oneCell' = true := fun u hu => by
  unfold objC at hu
  rcases List.mem_or_eq_of_mem_set hu with h | rfl
  · rcases List.mem_or_eq_of_mem_set h with h | rfl
    · exact List.all_eq_true.1 zero80one u h
    · rfl
  · exact hv
/-- A result of the object's type that is stored in a variable of its own. -/
theorem ret80 {w w4 : World} {r : Nat} (cs : List Value) (hl : cs.length = 76) (hr : Blk w4 r 80 Tryd.zeroCells80.toList) (hw : Below w.heap.size w w4) (hk : w.heap.size ≤ r) :
    Blk (w4.setCells r 0 cs) r 80 cs ∧ Below w.heap.size w (w4.setCells r 0 cs) := by
  refine ⟨?_, (But.setCells (k := r) cs 0 w4 (But.of_below hw)).new hk⟩
  have h9 := Blk.setCells cs 0 w4 _ hr
  rwa [sets_all _ _ (by rw [hl, zero80])] at h9
theorem new80 (w : World) : Blk (w.alloc (.cells Tryd.zeroCells80 80)) w.heap.size 80 Tryd.zeroCells80.toList := by
  have h9 := Blk.new w 80 Tryd.zeroCells80.toList
  rwa [Array.toArray_toList] at h9
theorem objArr (v : Value) : Value.agg ((Tryd.zeroCells80.setIfInBounds 0 (.int .i64 1)).setIfInBounds 1 v) = .agg (objC v).toArray := by
  congr 1
set_option maxRecDepth 100000 in
set_option maxHeartbeats 4000000 in
theorem object_walk (A : Option Addr) (n c : Nat) (w : World) :
    Calls Tryd.prog 45 #[.iface 104 (.slice A n c)] w fun e w' => e = .returned (.agg (objC (.slice A n c)).toArray) ∧ Below w.heap.size w w' := by
  have hta : ∀ W, (Instr.typeAssert (.iface 104 (.slice A n c)) 88 104 true).run Tryd.prog W = .ok (.tuple #[.slice A n c, .bool true]) W := fun W => by kernel_rfl
  obtain ⟨w1, hw1⟩ : ∃ w1, w.alloc (.cells Tryd.zeroCells80 80) = w1 := ⟨_, rfl⟩
  have HW1 := Lib.hid hw1
  have HR := Lib.hid (show Blk w1 w.heap.size 80 Tryd.zeroCells80.toList from hw1 ▸ new80 w)
  have HB := Lib.hid (show Below w.heap.size w w1 from hw1 ▸ below_alloc (Below.refl _ _) _)
  have HTH := Lib.hid (HR.out.there 0 (objC (.slice A n c)).toArray.size (by rw [List.size_toArray, objC_len, zero80]; decide))
  have HSZ := Lib.hid (show (Tryd.prog.info? 80).map (·.size) = some (objC (.slice A n c)).toArray.size from by rw [List.size_toArray, objC_len]; exact size80)
  have HON := Lib.hid (all_oneCell_toArray (objC_one (.slice A n c) rfl))
  have HF := Lib.hid (ret80 (objC (.slice A n c)) (objC_len _) HR.out HB.out (Nat.le_refl _))
  clear hw1
  go_enter Tryd.func45, Tryd.ntmps45
  go_upto_region 1 with (fail)
  rw [HW1.out]
  go_wp2_with (refine wpList_store_mid rfl 80 (.tmp 2) (.tmp 12) rfl w.heap.size 0 (objC (.slice A n c)).toArray rfl (objArr _) HTH.out HSZ.out HON.out ?_)
  exact bodyPost_ret (v := .agg (objC (.slice A n c)).toArray) (results_single rfl (.cell w.heap.size 80 (objC (.slice A n c)).toArray (0, 0) _ rfl HF.out.1 Tryd.underlying80 rfl HSZ.out .nil)) rfl ⟨rfl, HF.out.2⟩
set_option maxRecDepth 100000 in
set_option maxHeartbeats 4000000 in
/-- Parse takes a blob. -/
theorem Parse_walk (r : List Int) (A : Option Addr) (c : Nat) (w : World) (hC : Kd.C kB w A (1 :: r).length (1 :: r)) (hc : (1 :: r).length ≤ c) (hl : (1 :: r).length ≤ 65536) (he : w.cell? ⟨3, 0, none⟩ = some (.int .i64 0)) :
    Calls Tryd.prog 33 #[.slice A (1 :: r).length c] w fun e w' => ∃ v, v.oneCell' = true ∧ e = .returned (.tuple #[.agg (objC v).toArray, .int .i64 0]) ∧ Below w.heap.size w w' := by
  obtain ⟨w1, hw1⟩ : ∃ w1, w.alloc (.cells Tryd.zeroCells80 80) = w1 := ⟨_, rfl⟩
  have HW1 := Lib.hid hw1
  have HR := Lib.hid (show Blk w1 w.heap.size 80 Tryd.zeroCells80.toList from hw1 ▸ new80 w)
  have HB := Lib.hid (show Below w.heap.size w w1 from hw1 ▸ below_alloc (Below.refl _ _) _)
  have HPW := Lib.hid (parse_walk r A c w1 (Kd.C_below hC HB.out) hc hl (pw_cell_below HB.out he))
  obtain ⟨N, hN⟩ : ∃ N, (1 :: r).length = N := ⟨_, rfl⟩
  rw [hN] at HPW ⊢
  clear hw1 hC hc hl he hN
  go_enter Tryd.func33, Tryd.ntmps33
  go_upto_region 1 with (fail)
  rw [HW1.out]
  go_wp2_with fail
  refine HPW.out.mono ?_
  rintro e w2 ⟨g, n, rfl, hb⟩
  have HB2 := Lib.hid (HB.out.trans (hb.mono HB.out.size))
  have HR2 := Lib.hid (HR.out.below hb)
  have HOB := Lib.hid (object_walk (some ⟨g, 0, none⟩) n n w2)
  clear hb
  go_wp2_with fail
  refine HOB.out.mono ?_
  rintro e w3 ⟨rfl, hb⟩
  obtain ⟨v, hv⟩ : ∃ v, v = Value.slice (some ⟨g, 0, none⟩) n n := ⟨_, rfl⟩
  have HONE := Lib.hid (show v.oneCell' = true from by rw [hv]; rfl)
  rw [← hv]
  have HB3 := Lib.hid (HB2.out.trans (hb.mono HB2.out.size))
  have HR3 := Lib.hid (HR2.out.below hb)
  have HTH := Lib.hid (HR3.out.there 0 (objC v).toArray.size (by rw [List.size_toArray, objC_len, zero80]; decide))
  have HSZ := Lib.hid (show (Tryd.prog.info? 80).map (·.size) = some (objC v).toArray.size from by rw [List.size_toArray, objC_len]; exact size80)
  have HON := Lib.hid (all_oneCell_toArray (objC_one v HONE.out))
  have HF := Lib.hid (ret80 (objC v) (objC_len _) HR3.out HB3.out (Nat.le_refl _))
  clear hb hv
  go_wp2_with (refine wpList_store_mid rfl 80 (.tmp 2) (.tmp 16) rfl w.heap.size 0 (objC v).toArray rfl rfl HTH.out HSZ.out HON.out ?_)
  exact bodyPost_ret (v := .tuple #[.agg (objC v).toArray, .int .i64 0]) (results_list (rs := [.cell 2 80, .tmp 3]) rfl (by simp) (.cell w.heap.size 80 (objC v).toArray (0, 0) _ rfl HF.out.1 Tryd.underlying80 rfl HSZ.out (.tmp .nil))) rfl ⟨v, HONE.out, rfl, HF.out.2⟩
end Go.Proofs.YtfbkkcigkpffiaaDoor.St

namespace Go.Proofs.YtfbkkcigkpffiaaDoor.St
open Go Go.Lib Go.RowKit Go.ChangeMaps Go.Proofs.YtfbkkcigkpffiaaDoorW.PrintWords Go.Proofs.YtfbkkcigkpffiaaDoorW.PrintLast Go.Proofs.YtfbkkcigkpffiaaDoorW.PrintMore Go.Proofs.YtfbkkcigkpffiaaDoor.PStoreMany
set_option linter.unusedVariables false
set_option linter.unusedSimpArgs false
/-- What a store holds: encodings by ids, in the order in which they came. -/
abbrev Its := List (By × List Int)
def iget : Its → By → Option (List Int)
  | [], _ => none
  | (a, v) :: r, k => if a = k then some v else iget r k
def iput : Its → By → List Int → Its
  | [], k, v => [(k, v)]
  | (a, x) :: r, k, v => if a = k then (a, v) :: r else (a, x) :: iput r k v
def idel : Its → By → Its
  | [], _ => []
  | (a, x) :: r, k => if a = k then r else (a, x) :: idel r k
/-- A value is bytes. -/
def IsB (w : World) (v : Value) (b : List Int) : Prop := ∃ A c, v = .slice A b.length c ∧ b.length ≤ c ∧ Kd.C kB w A b.length b
def Same (w : World) : KV → Its → Prop
  | [], [] => True
  | (a, v) :: r, (d, b) :: s => a = d ∧ IsB w v b ∧ Same w r s
  | _, _ => False
theorem Same.len {w : World} : ∀ {kv : KV} {its : Its}, Same w kv its → kv.length = its.length
  | [], [], _ => rfl
  | (a, v) :: r, (d, b) :: s, h => by simp [Same.len h.2.2]
  | [], _ :: _, h => h.elim
  | _ :: _, [], h => h.elim
theorem Same.imp {w w' : World} (hB : ∀ v b, IsB w v b → IsB w' v b) : ∀ {kv : KV} {its : Its}, Same w kv its → Same w' kv its
  | [], [], _ => trivial
  | (a, v) :: r, (d, b) :: s, h => ⟨h.1, hB _ _ h.2.1, h.2.2.imp hB⟩
  | [], _ :: _, h => h.elim
  | _ :: _, [], h => h.elim
theorem Same.get {w : World} (k : By) : ∀ {kv : KV} {its : Its}, Same w kv its → (iget its k = none ∧ kget kv k = none) ∨ ∃ v b, iget its k = some b ∧ kget kv k = some v ∧ IsB w v b
  | [], [], _ => .inl ⟨rfl, rfl⟩
  | (a, v) :: r, (d, b) :: s, h => by
    obtain ⟨rfl, h1, h2⟩ := h
    unfold iget kget
    by_cases e : a = k
    · rw [if_pos e, if_pos e]
      exact .inr ⟨v, b, rfl, rfl, h1⟩
    · rw [if_neg e, if_neg e]
      exact Same.get k h2
  | [], _ :: _, h => h.elim
  | _ :: _, [], h => h.elim
theorem Same.put {w : World} (k : By) (v : Value) (b : List Int) (hv : IsB w v b) : ∀ {kv : KV} {its : Its}, Same w kv its → Same w (kput kv k v) (iput its k b)
  | [], [], _ => ⟨rfl, hv, trivial⟩
  | (a, x) :: r, (d, y) :: s, h => by
    obtain ⟨rfl, h1, h2⟩ := h
    unfold iput kput
    by_cases e : a = k
    · rw [if_pos e, if_pos e]; exact ⟨rfl, hv, h2⟩
    · rw [if_neg e, if_neg e]; exact ⟨rfl, h1, Same.put k v b hv h2⟩
  | [], _ :: _, h => h.elim
  | _ :: _, [], h => h.elim
theorem Same.del {w : World} (k : By) : ∀ {kv : KV} {its : Its}, Same w kv its → Same w (kdel kv k) (idel its k)
  | [], [], _ => trivial
  | (a, x) :: r, (d, y) :: s, h => by
    obtain ⟨rfl, h1, h2⟩ := h
    unfold idel kdel
    by_cases e : a = k
    · rw [if_pos e, if_pos e]; exact h2
    · rw [if_neg e, if_neg e]; exact ⟨rfl, h1, Same.del k h2⟩
  | [], _ :: _, h => h.elim
  | _ :: _, [], h => h.elim
theorem IsB.below {w w' : World} {v : Value} {b : List Int} (h : IsB w v b) (hb : Below w.heap.size w w') : IsB w' v b := by
  obtain ⟨A, c, h1, h2, h3⟩ := h
  exact ⟨A, c, h1, h2, Kd.C_below h3 hb⟩
/-- Cells don't lie in a map's block. -/
theorem IMap.ne {w : World} {km : Nat} {kv : KV} (h : IMap w km kv) {p : Addr} {v : Value} (hp : w.cell? p = some v) : p.block ≠ km := by
  rintro rfl
  obtain ⟨es, clock, hb, _⟩ := h
  unfold World.cell? at hp
  rw [hb] at hp
  cases hp
theorem C_but {w w' : World} {km : Nat} {kv : KV} (hm : IMap w km kv) (hb : But km w w') {A : Option Addr} {b : List Int} (h : Kd.C kB w A b.length b) : Kd.C kB w' A b.length b :=
  ⟨h.1, h.2.1, fun hp => by
    obtain ⟨ad, ha, hc⟩ := h.2.2 hp
    refine ⟨ad, ha, fun j x hj => ?_⟩
    obtain ⟨cs, h1, h2, h3⟩ := hc j x hj
    exact ⟨cs, h1, h2, fun i v hv => cell_but hb (h3 i v hv) (hm.ne (h3 i v hv))⟩⟩
theorem IsB.but {w w' : World} {km : Nat} {kv : KV} (hm : IMap w km kv) (hb : But km w w') {v : Value} {b : List Int} (h : IsB w v b) : IsB w' v b := by
  obtain ⟨A, c, h1, h2, h3⟩ := h
  exact ⟨A, c, h1, h2, C_but hm hb h3⟩
/-- A store. -/
structure StoreAt (w : World) (ks km : Nat) (its : Its) : Prop where
  blk : Blk w ks 72 [.map (some km)]
  map : ∃ kv, IMap w km kv ∧ Same w kv its
theorem StoreAt.below {w w' : World} {ks km : Nat} {its : Its} (h : StoreAt w ks km its) (hb : Below w.heap.size w w') : StoreAt w' ks km its :=
  ⟨h.blk.below hb, by
    obtain ⟨kv, h1, h2⟩ := h.map
    exact ⟨kv, h1.below hb, h2.imp (fun v b hv => hv.below hb)⟩⟩
/-- Another store's map has been written. -/
theorem StoreAt.other {w w' : World} {ks km km' : Nat} {its : Its} {kv' : KV} (h : StoreAt w ks km its) (hm : IMap w km' kv') (hne : km ≠ km') (hb : But km' w w') : StoreAt w' ks km its := by
  obtain ⟨kv, h1, h2⟩ := h.map
  refine ⟨?_, kv, h1.of_block (hb.block km h1.lt hne), h2.imp (fun v b hv => hv.but hm hb)⟩
  exact h.blk.but hb (hm.ne (show w.cell? ⟨ks, 0, none⟩ = some _ from h.blk.cell 0))
theorem quiet_ld {P : Program} {w : World} {K : Act → Prop} {a : Act} {o : Oper} (ty : TypeId) (x : Operand) (ho : o.op = .load ty x) (ad : Addr) (hx : a.eval x = .pointer (some ad)) (v : Value)
    (hl : ∀ w', Below w.heap.size w w' → (Instr.loadAt ty (.pointer (some ad))).run P w' = .ok v w') (hk : K (a.put o.dst v)) : o.quiet P a (fun w' => ∃ i : Cls w, w' = i.at) K :=
  ⟨v, fun w' ⟨i, hi⟩ => by
    unfold Oper.quietAt execOp
    subst hi
    simp only [ho, hx, Sem.run_bind, hl _ i.below, Result.andThen_ok, Sem.run_pure]
    exact ⟨rfl, rfl⟩, hk⟩
/-- A look-up in such a region. -/
theorem quiet_look {P : Program} {w : World} {K : Act → Prop} {a : Act} {o : Oper} (ty : TypeId) (x y : Operand) (c : Bool) (ho : o.op = .lookup ty x y c) (m kk : Value) (hx : a.eval x = m) (hy : a.eval y = kk) (v : Value)
    (hl : ∀ w', Below w.heap.size w w' → (Instr.lookup ty m kk c).run P w' = .ok v w') (hk : K (a.put o.dst v)) : o.quiet P a (fun w' => ∃ i : Cls w, w' = i.at) K :=
  ⟨v, fun w' ⟨i, hi⟩ => by
    unfold Oper.quietAt execOp
    subst hi
    simp only [ho, hx, hy, Sem.run_bind, hl _ i.below, Result.andThen_ok, Sem.run_pure]
    exact ⟨rfl, rfl⟩, hk⟩
set_option maxRecDepth 100000 in
set_option maxHeartbeats 4000000 in
theorem snew_walk (w : World) : Calls Tryd.prog 9 #[] w fun e w' => ∃ ks km, e = .returned (.pointer (some ⟨ks, 0, none⟩)) ∧ w.heap.size ≤ ks ∧ w.heap.size ≤ km ∧ StoreAt w' ks km [] ∧ Below w.heap.size w w' := by
  have hmm := @run_makeMap Tryd.prog
  have HM := Lib.hid (IMap.made w)
  have HB1 := Lib.hid (show Below w.heap.size w (w.alloc (.map #[] 0)) from below_alloc (Below.refl _ _) _)
  go_enter Tryd.func9, Tryd.ntmps9
  go_wp2_with fail
  have HS := Lib.hid (Blk.new (w.alloc (.map #[] 0)) 72 [.map (some w.heap.size)])
  have HB2 := Lib.hid (show Below (w.alloc (.map #[] 0)).heap.size (w.alloc (.map #[] 0)) ((w.alloc (.map #[] 0)).alloc (.cells [Value.map (some w.heap.size)].toArray 72)) from below_alloc (Below.refl _ _) _)
  go_ret
  have hsz : (w.alloc (.map #[] 0)).heap.size = w.heap.size + 1 := by simp
  have hbl := HS.out
  rw [hsz] at hbl
  exact ⟨w.heap.size + 1, w.heap.size, rfl, by omega, Nat.le_refl _, ⟨hbl, [], HM.out.below HB2.out, trivial⟩, HB1.out.trans (HB2.out.mono HB1.out.size)⟩
theorem run_mlen {w : World} {km : Nat} {kv : KV} (h : IMap w km kv) (ty : TypeId) : (Builtin.len_ #[70] ty #[.map (some km)]).run Tryd.prog w = .ok (.int .i64 (kv.length : Int)) w := by
  obtain ⟨es, clock, hb, hm, _⟩ := h
  have hl : es.size = kv.length := by
    have := congrArg List.length hm
    simpa using this
  simp [Builtin.len_, MapKept.run_getObj_map (P := Tryd.prog) hb, Result.andThen, hl, goInt]
set_option maxRecDepth 100000 in
set_option maxHeartbeats 4000000 in
theorem len_walk (ks km : Nat) (its : Its) (w : World) (h : StoreAt w ks km its) :
    Calls Tryd.prog 14 #[.pointer (some ⟨ks, 0, none⟩)] w fun e w' => e = .returned (.int .i64 (its.length : Int)) ∧ w = w' := by
  have c0 : w.cell? ⟨ks, 0, none⟩ = some (.map (some km)) := h.blk.cell 0
  obtain ⟨kv, hm, hs⟩ := h.map
  have hln := run_mlen hm 3
  rw [hs.len] at hln
  obtain ⟨n, hn⟩ : ∃ n, its.length = n := ⟨_, rfl⟩
  rw [hn] at hln ⊢
  clear h hm hs hn
  go_enter Tryd.func14, Tryd.ntmps14
  go_wp2_with fail
  go_ret
  exact ⟨rfl, rfl⟩
theorem IsB.of_R {w : World} {B : Nat} {ok : Nat → Prop} {v : Value} {b : List Int} (h : Kd.R kB 5 w B ok v b) : IsB w v b := by
  obtain ⟨A, c, rfl⟩ := Kd.R_slice h
  obtain ⟨_, h2, h3⟩ := Kd.R_reads' h
  exact ⟨A, c, rfl, h2, h3⟩
theorem R_lit0 (w : World) : Kd.R kB 5 (w.alloc (.cells #[] 5)) w.heap.size (fun k => w.heap.size ≤ k) (.slice (some ⟨w.heap.size, 0, none⟩) 0 0) [] := by
  refine ⟨fun k hk => ?_, [], ?_, ⟨by simp, fun j p h => by simp at h⟩⟩
  · have : w.heap.size = k := by simpa [Value.ownBlock] using hk
    omega
  · have h2 := World.ownsRow_lit (base := w.heap.size) (e := 5) (size := 1) w #[] 0 (Nat.le_refl _) (by decide) (by simp)
    exact h2
theorem nil_slice (n c : Nat) (W : World) : (binOp .eql 30 (.slice none n c) (.slice none 0 0)).run Tryd.prog W = .ok (.bool true) W := by kernel_rfl
theorem some_slice (ad : Addr) (n c : Nat) (W : World) : (binOp .eql 30 (.slice (some ad) n c) (.slice none 0 0)).run Tryd.prog W = .ok (.bool false) W := by kernel_rfl
set_option maxRecDepth 100000 in
set_option maxHeartbeats 4000000 in
/-- bytes.Clone. -/
theorem clone_walk (b : List Int) (A : Option Addr) (c : Nat) (w : World) (hC : Kd.C kB w A b.length b) (hl : b.length ≤ 1000000000) :
    Calls Tryd.prog 35 #[.slice A b.length c] w fun e w' => ∃ v, e = .returned v ∧ IsB w' v b ∧ (∀ k, v.ownBlock = some k → w.heap.size ≤ k) ∧ Below w.heap.size w w' := by
  cases A with
  | none =>
    have hb0 : b = [] := by
      cases b with
      | nil => rfl
      | cons x r =>
        obtain ⟨ad, h, _⟩ := hC.2.2 (by simp)
        cases h
    subst hb0
    have HI := Lib.hid (show IsB w (.slice none 0 0) [] from ⟨none, 0, rfl, Nat.le_refl _, hC⟩)
    have hq := nil_slice 0 c
    clear hC
    go_enter Tryd.func35, Tryd.ntmps35
    go_wp2_with fail
    go_ret
    exact ⟨_, rfl, HI.out, fun k hk => by simp [Value.ownBlock] at hk, Below.refl _ _⟩
  | some ad =>
    have HC := Lib.hid hC
    have HR0 := Lib.hid (R_lit0 w)
    have HB0 := Lib.hid (show Below w.heap.size w (w.alloc (.cells #[] 5)) from below_alloc (Below.refl _ _) _)
    obtain ⟨N, hN⟩ : ∃ N, b.length = N := ⟨_, rfl⟩
    have HN := Lib.hid hN
    rw [hN] at hl ⊢
    have hq := some_slice ad N c
    clear hC hN
    go_enter Tryd.func35, Tryd.ntmps35
    go_wp2_with (at_builtin; refine Kd.R_append_rows kB (Rr := fun x cs => cs = [Value.int .u8 x]) (w0 := w) (W := (w.alloc (.cells #[] 5))) w.heap.size rfl (.tmp 5) (.tmp 6) 30 5 (.int .u8 0) 1 rfl Tryd.underlying30 info5 rfl (by decide) (by decide) _ [] b (some ad) N c (fun k => w.heap.size ≤ k) (fun _ => False) rfl rfl HR0.out (HN.out ▸ (Kd.C_below HC.out HB0.out)) (fun _ _ h => h) (fun _ hk => hk.elim) (fun k hk => Nat.le_trans HB0.out.size hk) HB0.out HB0.out.size (by simp; omega) ?_; intro v1 w1 hr1 hb1 hg1 hat1; have HR1 := Lib.hid hr1; have HB1 := Lib.hid hb1; clear hr1 hb1 hg1 hat1)
    rw [List.nil_append] at HR1
    go_ret
    exact ⟨_, rfl, IsB.of_R HR1.out, fun k hk => HR1.out.1 k hk, HB1.out⟩
set_option maxRecDepth 100000 in
set_option maxHeartbeats 4000000 in
theorem has_walk (ks km : Nat) (its : Its) (d : By) (hd : d.length = 32) (w : World) (h : StoreAt w ks km its) :
    Calls Tryd.prog 12 #[.pointer (some ⟨ks, 0, none⟩), vId d] w fun e w' => e = .returned (.bool (iget its d).isSome) ∧ Below w.heap.size w w' := by
  obtain ⟨w1, hw1⟩ : ∃ w1, w.alloc (.cells (cl d).toArray 33) = w1 := ⟨_, rfl⟩
  have HW1 := Lib.hid hw1
  have HB1 := Lib.hid (show Below w.heap.size w w1 from hw1 ▸ below_alloc (Below.refl _ _) _)
  have HI := Lib.hid (show Blk w1 w.heap.size 33 (cl d) from hw1 ▸ Blk.new w 33 (cl d))
  have HS := Lib.hid (h.below HB1.out)
  have c0 : ∀ q : Cls w1, q.at.cell? ⟨ks, 0, none⟩ = some (.map (some km)) := fun q => q.cell (HS.out.blk.cell 0)
  have HL1 := Lib.hid (fun w' (hb : Below w1.heap.size w1 w') => (HI.out.below hb).loads 33 Tryd.isAgg33 (fun W => by rw [List.length_map, hd]; exact Tryd.sizeOf33 W))
  obtain ⟨v, hv⟩ : ∃ v, ∀ w', Below w1.heap.size w1 w' → (Instr.lookup 70 (.map (some km)) (vId d) true).run Tryd.prog w' = .ok (.tuple #[v, .bool (iget its d).isSome]) w' := by
    obtain ⟨kv, hm, hs⟩ := HS.out.map
    refine ⟨(kget kv d).getD (.slice none 0 0), fun w' hb => ?_⟩
    rw [(hm.below hb).lookup hd true]
    rcases hs.get d with ⟨h1, h2⟩ | ⟨v, b, h1, h2, _⟩ <;> rw [h1, h2] <;> rfl
  have HLK := Lib.hid hv
  obtain ⟨x, hx⟩ : ∃ x, (iget its d).isSome = x := ⟨_, rfl⟩
  rw [hx] at HLK ⊢
  clear h hw1 hv hx
  go_enter Tryd.func12, Tryd.ntmps12
  go_upto_region 1 with (fail)
  rw [HW1.out]
  refine wp_region_cls (by kernel_rfl) (by kernel_rfl) ?_
  repeat (first | go_big_quiet_skip | (go_big_quiet_want; refine quiet_ld 33 (.tmp 3) rfl ⟨w.heap.size, 0, none⟩ rfl (vId d) HL1.out ?_; (try simp only [Act.put, List.setIfInBounds_toArray, List.set_cons_zero, List.set_cons_succ]); go_big_quiet_on) | (go_big_quiet_want; refine quiet_look 70 (.tmp 11) (.tmp 12) true rfl (.map (some km)) (vId d) rfl rfl (.tuple #[v, .bool x]) HLK.out ?_; (try simp only [Act.put, List.setIfInBounds_toArray, List.set_cons_zero, List.set_cons_succ]); go_big_quiet_on) | go_big_quiet_step (fail))
  refine wpQuiet_nil ?_
  rintro wy ⟨q, rfl⟩
  have HB := Lib.hid (HB1.out.trans (q.below.mono HB1.out.size))
  clear c0
  go_wp2_with fail
  go_ret
  exact ⟨rfl, HB.out⟩
end Go.Proofs.YtfbkkcigkpffiaaDoor.St

namespace Go.Proofs.YtfbkkcigkpffiaaDoor.St
open Go.MapKept (heap_set)
open Go Go.Lib Go.RowKit Go.ChangeMaps Go.Proofs.YtfbkkcigkpffiaaDoorW.PrintWords Go.Proofs.YtfbkkcigkpffiaaDoorW.PrintLast Go.Proofs.YtfbkkcigkpffiaaDoorW.PrintMore Go.Proofs.YtfbkkcigkpffiaaDoor.PStoreMany
set_option linter.unusedVariables false
set_option linter.unusedSimpArgs false
/-- What Put tells of a blob, and what the store holds then. -/
def PutRes (d : By) (its : Its) (b : List Int) (di : By) (nw : Bool) (er : Nat) (its' : Its) : Prop :=
  match iget its d with
  | some old => its' = its ∧ nw = false ∧ ((old = b ∧ di = d ∧ er = 0) ∨ (old ≠ b ∧ er = 45))
  | none => if 8192 ≤ its.length then its' = its ∧ nw = false ∧ er = 44 else its' = iput its d b ∧ nw = true ∧ er = 0 ∧ di = d
theorem back : ∀ (a : List Int), (∀ y ∈ a, Byte y) → (Lib.bytesOf a).map (fun u => (u.toNat : Int)) = a
  | [], _ => rfl
  | x :: r, h => by
    have h1 := h x (by simp)
    have h2 := back r (fun y hy => h y (by simp [hy]))
    show ((UInt8.ofNat x.toNat).toNat : Int) :: (Lib.bytesOf r).map (fun u => (u.toNat : Int)) = _
    rw [h2, UInt8.toNat_ofNat']
    congr 1
    unfold Byte at h1
    omega
theorem iget_mem {d : By} {o : List Int} : ∀ {its : Its}, iget its d = some o → ∃ x ∈ its, x.2 = o
  | [], h => by cases h
  | (k, b) :: r, h => by
    unfold iget at h
    by_cases e : k = d
    · rw [if_pos e] at h
      cases h
      exact ⟨(k, o), List.mem_cons_self, rfl⟩
    · rw [if_neg e] at h
      obtain ⟨x, h1, h2⟩ := iget_mem h
      exact ⟨x, List.mem_cons_of_mem _ h1, h2⟩
theorem equal_walk (A B : Option Addr) (c c' : Nat) (a b : List Int) (w : World) (hA : Kd.C kB w A a.length a) (hB : Kd.C kB w B b.length b) (h1 : a.length ≤ c) (h2 : b.length ≤ c') (ha : ∀ y ∈ a, Byte y) (hb : ∀ y ∈ b, Byte y) :
    Calls Tryd.prog 34 #[.slice A a.length c, .slice B b.length c'] w fun e w' => e = .returned (.bool (decide (a = b))) ∧ Below w.heap.size w w' :=
  (bytes_Equal.calls A c a B c' b (decide (a = b)) w hA h1 hB h2 (by
    unfold bytes_Equal.f
    congr 1
    rw [Lib.strOfNums_toList, Lib.strOfNums_toList]
    by_cases e : a = b
    · subst e; simp
    · rw [decide_eq_false e]
      exact beq_eq_false_iff_ne.2 (fun h => e (by rw [← back a ha, ← back b hb, h])))).mono fun e w' ⟨h1, h2⟩ => ⟨h1, h2.below⟩
theorem but_put {w : World} {km : Nat} {kv : KV} (h : IMap w km kv) (o : Obj) : But km w (setBlock w km o) := by
  obtain ⟨es, clock, hb, _⟩ := h
  exact ⟨rfl, rfl, rfl, by simp [setBlock], fun i _ hi => (heap_set hb).2 i hi⟩
theorem add_block (a : Addr) (n : Nat) : (a.add n).block = a.block := by unfold Addr.add; split <;> rfl
/-- A block that is not this value's own. -/
theorem IsB.off {w w' : World} {k : Nat} {v : Value} {b : List Int} (h : IsB w v b) (hk : ∀ j, v.ownBlock = some j → j ≠ k) (hb : But k w w') : IsB w' v b := by
  obtain ⟨A, c, h1, h2, h3⟩ := h
  refine ⟨A, c, h1, h2, h3.1, h3.2.1, fun hp => ?_⟩
  obtain ⟨ad, ha, hc⟩ := h3.2.2 hp
  refine ⟨ad, ha, fun j x hj => ?_⟩
  obtain ⟨cs, g1, g2, g3⟩ := hc j x hj
  exact ⟨cs, g1, g2, fun i u hv => cell_but hb (g3 i u hv) (by
    rw [add_block]
    exact hk _ (by rw [h1, ha]; rfl))⟩
theorem But.both {km k : Nat} {a b c : World} (h : But km a b) (g : But k b c) (hk : a.heap.size ≤ k) : But km a c :=
  ⟨g.os.trans h.os, g.tape.trans h.tape, g.output.trans h.output, Nat.le_trans h.size g.size, fun j hj hn => (g.block j (Nat.lt_of_lt_of_le hj h.size) (by omega)).trans (h.block j hj hn)⟩
theorem StoreAt.put {w wE F : World} {ks km : Nat} {its : Its} {kv : KV} (h : StoreAt w ks km its) (hm : IMap w km kv) (hs : Same w kv its) {d : By} {v : Value} {b : List Int} (hv : IsB F v b)
    (hn : IMap wE km (kput kv d v)) (hE : F.heap[km]? = wE.heap[km]?) (hF : But km w F) : StoreAt F ks km (iput its d b) :=
  ⟨h.blk.but hF (hm.ne (h.blk.cell 0)), _, hn.of_block hE, (hs.imp (fun _ _ q => IsB.but hm hF q)).put d v b hv⟩
def zid : By := List.replicate 32 0
set_option maxRecDepth 100000 in
set_option maxHeartbeats 4000000 in
theorem put_walk (bg : List Int) (rk : Nat → Int) (ks km : Nat) (its : Its) (r : List Int) (A : Option Addr) (c : Nat) (w : World) (hT : Tabs bg rk w) (he : w.cell? ⟨3, 0, none⟩ = some (.int .i64 0)) (hS : StoreAt w ks km its)
    (hC : Kd.C kB w A (1 :: r).length (1 :: r)) (hc : (1 :: r).length ≤ c) (hl : (1 :: r).length ≤ 65536) (hby : ∀ y ∈ (1 :: r), Byte y) (hits : ∀ x ∈ its, ∀ y ∈ x.2, Byte y) :
    Calls Tryd.prog 15 #[.pointer (some ⟨ks, 0, none⟩), .slice A (1 :: r).length c] w fun e w' => ∃ di nw er its', e = .returned (.tuple #[vId di, .bool nw, .int .i64 (er : Nat)]) ∧ PutRes (dig bg rk (1 :: r)) its (1 :: r) di nw er its' ∧ StoreAt w' ks km its' ∧ But km w w' ∧ di.length = 32 := by
  have HT := Lib.hid hT
  have HE := Lib.hid he
  have HS := Lib.hid hS
  have HC := Lib.hid hC
  obtain ⟨w1, hw1⟩ : ∃ w1, w.alloc (.cells (noughts 32).toArray 33) = w1 := ⟨_, rfl⟩
  have HB1 := Lib.hid (show Below w.heap.size w w1 from hw1 ▸ below_alloc (Below.refl _ _) _)
  have HRV := Lib.hid (show Blk w1 w.heap.size 33 (noughts 32) from hw1 ▸ Blk.new w 33 (noughts 32))
  have HW1 := Lib.hid hw1
  have HPA := Lib.hid (Parse_walk r A c w1 (Kd.C_below hC HB1.out) hc hl (pw_cell_below HB1.out he))
  have HID := Lib.hid (fun W (hb : Below w.heap.size w W) => id_walk bg rk (1 :: r) A c W (hT.below hb) (Kd.C_below hC hb) hc (by omega))
  have HCL := Lib.hid (fun W (hb : Below w.heap.size w W) => clone_walk (1 :: r) A c W (Kd.C_below hC hb) (by omega))
  obtain ⟨b, hb⟩ : ∃ b, 1 :: r = b := ⟨_, rfl⟩
  rw [hb] at HPA HID HCL HC hc hl hby ⊢
  obtain ⟨N, hN⟩ : ∃ N, b.length = N := ⟨_, rfl⟩
  have HN := Lib.hid hN
  rw [hN] at HPA HID HCL hc hl ⊢
  obtain ⟨d, hd⟩ : ∃ d, dig bg rk b = d := ⟨_, rfl⟩
  have HDL := Lib.hid (show d.length = 32 from hd ▸ dig_len bg rk b)
  rw [hd] at HID ⊢
  have HBY := Lib.hid hby
  have HIT := Lib.hid hits
  clear hT he hS hC hw1 hb hN hd hby hits
  go_enter Tryd.func15, Tryd.ntmps15
  go_upto_region 1 with (fail)
  change Code.wp _ _ _ _ (w.alloc (.cells (noughts 32).toArray 33))
  rw [HW1.out]
  go_wp2_with fail
  refine HPA.out.mono ?_
  rintro e w2 ⟨v, hv1, rfl, hb2⟩
  have HB2 := Lib.hid (HB1.out.trans (hb2.mono HB1.out.size))
  have HRV2 := Lib.hid (HRV.out.below hb2)
  obtain ⟨w3, hw3⟩ : ∃ w3, w2.alloc (.cells Tryd.zeroCells80 80) = w3 := ⟨_, rfl⟩
  have HW3 := Lib.hid hw3
  have HO3 := Lib.hid (show Blk w3 w2.heap.size 80 Tryd.zeroCells80.toList from hw3 ▸ new80 w2)
  have HB3 := Lib.hid (show Below w2.heap.size w2 w3 from hw3 ▸ below_alloc (Below.refl _ _) _)
  have HTH := Lib.hid (HO3.out.there 0 (objC v).toArray.size (by rw [List.size_toArray, objC_len, zero80]; decide))
  have HSZ := Lib.hid (show (Tryd.prog.info? 80).map (·.size) = some (objC v).toArray.size from by rw [List.size_toArray, objC_len]; exact size80)
  have HON := Lib.hid (all_oneCell_toArray (objC_one v hv1))
  have HB4 := Lib.hid (show Below w2.heap.size w2 (w3.setCells w2.heap.size 0 (objC v)) from (But.setCells (k := w2.heap.size) (objC v) 0 w3 (But.of_below HB3.out)).new (Nat.le_refl _))
  clear hb2 hv1 hw3
  go_upto_region 4 with (rw [HW3.out]; refine wpList_store_mid rfl 80 (.tmp 7) (.tmp 15) rfl w2.heap.size 0 (objC v).toArray rfl rfl HTH.out HSZ.out HON.out ?_)
  obtain ⟨w4, hw4⟩ : ∃ w4, w3.setCells w2.heap.size 0 (objC v) = w4 := ⟨_, rfl⟩
  rw [hw4] at HB4 ⊢
  have HB24 := Lib.hid (HB2.out.trans (HB4.out.mono HB2.out.size))
  have HRV4 := Lib.hid (HRV2.out.below HB4.out)
  clear hw4
  go_wp2_with fail
  refine (HID.out _ HB24.out).mono ?_
  rintro e w5 ⟨rfl, hb5⟩
  have HB5 := Lib.hid (HB24.out.trans (hb5.mono HB24.out.size))
  have HRV5 := Lib.hid (HRV4.out.below hb5)
  obtain ⟨w6, hw6⟩ : ∃ w6, w5.alloc (.cells (noughts 32).toArray 33) = w6 := ⟨_, rfl⟩
  have HW6 := Lib.hid hw6
  have HI6 := Lib.hid (show Blk w6 w5.heap.size 33 (noughts 32) from hw6 ▸ Blk.new w5 33 (noughts 32))
  have HB6 := Lib.hid (show Below w5.heap.size w5 w6 from hw6 ▸ below_alloc (Below.refl _ _) _)
  have HTH := Lib.hid (HI6.out.there 0 (cl d).toArray.size (by rw [List.size_toArray, List.length_map, HDL.out]; simp))
  have HSZ := Lib.hid (size33' HDL.out)
  have HON := Lib.hid (one33 d)
  have HI7 := Lib.hid (ret_id d HDL.out HI6.out HB6.out (Nat.le_refl _))
  clear hb5 hw6
  go_upto_region 5 with (first | ((change wpList _ _ _ _ _ (w5.alloc (.cells (noughts 32).toArray 33))); rw [HW6.out]; refine wpList_store_mid rfl 33 (.tmp 9) (.tmp 21) rfl w5.heap.size 0 (cl d).toArray rfl rfl HTH.out HSZ.out HON.out ?_))
  obtain ⟨w7, hw7⟩ : ∃ w7, w6.setCells w5.heap.size 0 (cl d) = w7 := ⟨_, rfl⟩
  rw [hw7] at HI7 ⊢
  obtain ⟨ki, hki⟩ : ∃ ki, w5.heap.size = ki := ⟨_, rfl⟩
  rw [hki]
  have HI := Lib.hid (show Blk w7 ki 33 (cl d) from hki ▸ HI7.out.1)
  have HB7 := Lib.hid (HB5.out.trans (HI7.out.2.mono HB5.out.size))
  have HRV7 := Lib.hid (HRV5.out.below HI7.out.2)
  have HS7 := Lib.hid (HS.out.below HB7.out)
  have HKI := Lib.hid (show w.heap.size ≤ ki from hki ▸ HB5.out.size)
  clear hw7 hki HI7 HI6 HTH HSZ HON
  try simp only [Act.put]
  have c0 : ∀ q : Cls w7, q.at.cell? ⟨ks, 0, none⟩ = some (.map (some km)) := fun q => q.cell (HS7.out.blk.cell 0)
  have HL1 := Lib.hid (fun w' (hb : Below w7.heap.size w7 w') => (HI.out.below hb).loads 33 Tryd.isAgg33 (fun W => by rw [List.length_map, HDL.out]; exact Tryd.sizeOf33 W))
  obtain ⟨kv, hm0, hs0⟩ := HS.out.map
  have hm := hm0.below HB7.out
  have hs := hs0.imp (fun v b hv => IsB.below hv HB7.out)
  have HLK := Lib.hid (fun w' (hb : Below w7.heap.size w7 w') => (hm.below hb).lookup HDL.out true)
  simp only [if_true] at HLK
  have HM0 := Lib.hid hm0
  have HS0 := Lib.hid hs0
  have HM := Lib.hid hm
  have HSM := Lib.hid hs
  rcases hs.get d with ⟨g1, g2⟩ | ⟨ov, old, g1, g2, hov⟩
  · rw [g2] at HLK
    have HG1 := Lib.hid g1
    have HG2 := Lib.hid g2
    clear hm0 hs0 hm hs g1 g2
    refine wp_region_cls (by kernel_rfl) (by kernel_rfl) ?_
    repeat (first | go_big_quiet_skip | (go_big_quiet_want; refine quiet_ld 33 (.tmp 9) rfl ⟨ki, 0, none⟩ rfl (vId d) HL1.out ?_; (try simp only [Act.put, List.setIfInBounds_toArray, List.set_cons_zero, List.set_cons_succ]); go_big_quiet_on) | (go_big_quiet_want; refine quiet_look 70 (.tmp 26) (.tmp 27) true rfl (.map (some km)) (vId d) rfl rfl _ HLK.out ?_; (try simp only [Act.put, List.setIfInBounds_toArray, List.set_cons_zero, List.set_cons_succ]); go_big_quiet_on) | go_big_quiet_step (fail))
    refine wpQuiet_nil ?_
    rintro wy ⟨q, rfl⟩
    have HB8 := Lib.hid (HB7.out.trans (q.below.mono HB7.out.size))
    have HRV8 := Lib.hid (HRV7.out.below q.below)
    have HS8 := Lib.hid (HS7.out.below q.below)
    have HI8 := Lib.hid (HI.out.below q.below)
    have HM8 := Lib.hid (HM.out.below q.below)
    have HKM := Lib.hid (show ki ≠ km from HM8.out.ne (HI8.out.cell 0 |>.trans (show (cl d)[0]? = some ((cl d)[0]'(by rw [List.length_map, HDL.out]; decide)) from List.getElem?_eq_getElem _)))
    have HSM8 := Lib.hid (HSM.out.imp (fun v b hv => IsB.below hv q.below))
    obtain ⟨w8, hw8⟩ : ∃ w8, q.at = w8 := ⟨_, rfl⟩
    rw [hw8] at HB8 HRV8 HS8 HI8 HM8 HSM8 ⊢
    have c0 : w8.cell? ⟨ks, 0, none⟩ = some (.map (some km)) := HS8.out.blk.cell 0
    have hln := run_mlen HM8.out 3
    rw [HSM8.out.len] at hln
    have HLD := Lib.hid (HI8.out.loads 33 Tryd.isAgg33 (fun W => by rw [List.length_map, HDL.out]; exact Tryd.sizeOf33 W))
    clear hw8 q HL1 HLK HS7 HM HSM HI HRV7 HB7
    by_cases hfull : 8192 ≤ its.length
    · have hf' : (8192 : Int) ≤ (its.length : Int) := by omega
      have HTH := Lib.hid (HRV8.out.there 0 (cl zid).toArray.size (by simp [zid]))
      have HSZ := Lib.hid (size33' (D := zid) (by decide))
      have HON := Lib.hid (one33 zid)
      have HF := Lib.hid (ret_id zid (by decide) HRV8.out HB8.out (Nat.le_refl _))
      have HRES := Lib.hid (show PutRes d its b zid false 44 its from by unfold PutRes; rw [HG1.out]; simp only; rw [if_pos hfull]; trivial)
      have HSF := Lib.hid (HS.out.below HF.out.2)
      clear HLD
      go_wp2_with (refine wpList_store_mid rfl 33 (.tmp 4) (.tmp 49) rfl w.heap.size 0 (cl zid).toArray rfl rfl HTH.out HSZ.out HON.out ?_)
      exact bodyPost_ret (v := .tuple #[vId zid, .bool false, .int .i64 44]) (results_list (rs := [.cell 4 33, .tmp 5, .tmp 6]) rfl (by simp) (.cell w.heap.size 33 (cl zid).toArray (0, 0) _ rfl HF.out.1 Tryd.underlying33 rfl HSZ.out (.tmp (.tmp .nil)))) rfl ⟨zid, false, 44, its, rfl, HRES.out, HSF.out, But.of_below HF.out.2, by decide⟩
    · have hf' : ¬ (8192 : Int) ≤ (its.length : Int) := by omega
      go_upto_region 12 with (fail)
      have HSX := Lib.hid (fun w' (hb : But km w8 w') => (show w'.cell? ⟨ks, 0, none⟩ = some (.map (some km)) ∧ w'.rangeAt ki 0 (cl d) from ⟨(HS8.out.blk.but hb (HM8.out.ne (HS8.out.blk.cell 0))).cell 0, fun j v hv => by rw [Nat.zero_add, (HI8.out.but hb HKM.out).cell j]; exact hv⟩))
      have hu33 := Tryd.underlying33
      have hi33 : (Tryd.prog.info? 33).map (·.size) = some (cl d).length := by rw [List.length_map, HDL.out]; exact size33
      have HCL8 := Lib.hid (fun W (hb : Below w8.heap.size w8 W) => HCL.out W (HB8.out.trans (hb.mono HB8.out.size)))
      clear hln c0 HLD
      go_region_held3 (fun w' => w'.cell? ⟨ks, 0, none⟩ = some (.map (some km)) ∧ w'.rangeAt ki 0 (cl d))
        (first | assumption | exact HSX.out _ (But.of_below (pw_below_drewN (Below.refl _ _) 1)) | exact HSX.out _ (But.of_below (by assumption)))
        (first | (go_at_call 35; (refine (HCL8.out _ (pw_below_drewN (Below.refl _ _) 1)).mono ?_); rintro e w9 ⟨cv, rfl, hcv, hfr, hb9⟩; have hb89 := Below.trans (pw_below_drewN (Below.refl _ w8) 1) hb9) | (obtain ⟨ob, hrun, r1⟩ := IMap.update (HM8.out.below hb89) HDL.out cv; have HR9 := Lib.hid r1; have hS9 := HSX.out _ ((But.of_below hb89).trans (but_put (HM8.out.below hb89) ob)); rw [show Sem.run Tryd.prog (Instr.mapUpdate 70 (Value.map (some km)) (Value.agg (cl d).toArray) cv) w9 = _ from hrun]))
      have hfr' : ∀ k, cv.ownBlock = some k → w8.heap.size ≤ k := hfr
      have hb89' : Below w8.heap.size w8 w9 := hb89
      have HBE := Lib.hid ((But.of_below hb89').trans (but_put (HM8.out.below hb89) ob))
      have HCV := Lib.hid (show IsB (setBlock w9 km ob) cv b from IsB.but (HM8.out.below hb89) (but_put (HM8.out.below hb89) ob) hcv)
      have HFR := Lib.hid hfr'
      obtain ⟨wE, hwE⟩ : ∃ wE, setBlock w9 km ob = wE := ⟨_, rfl⟩
      rw [hwE] at HR9 HBE HCV ⊢
      clear hfr hfr' hcv hb9 hb89'  hb89 hrun r1 hS9 hwE HSX HCL8
      have hrk : w.heap.size ≠ km := HM8.out.ne (HRV8.out.cell 0)
      have HRVE := Lib.hid (HRV8.out.but HBE.out hrk)
      have HIE := Lib.hid (HI8.out.but HBE.out HKM.out)
      have HLD := Lib.hid (HIE.out.loads 33 Tryd.isAgg33 (fun W => by rw [List.length_map, HDL.out]; exact Tryd.sizeOf33 W))
      have HTH := Lib.hid (HRVE.out.there 0 (cl d).toArray.size (by rw [List.size_toArray, List.length_map, HDL.out]; simp))
      have HSZ := Lib.hid (size33' HDL.out)
      have HON := Lib.hid (one33 d)
      have HBF := Lib.hid (But.setCells (k := w.heap.size) (cl d) 0 wE (But.refl _ _))
      have HF := Lib.hid (show Blk (wE.setCells w.heap.size 0 (cl d)) w.heap.size 33 (cl d) from by
        have h9 := Blk.setCells (cl d) 0 wE _ HRVE.out
        rwa [sets_all _ _ (by rw [List.length_map, HDL.out]; rfl)] at h9)
      have HBW := Lib.hid (((But.of_below (k := km) HB8.out).trans HBE.out).both HBF.out (Nat.le_refl _))
      have hlt := HRV8.out.lt
      have HST := Lib.hid (HS.out.put HM0.out HS0.out (HCV.out.off (fun j hj => by have := HFR.out j hj; omega) HBF.out) HR9.out (HBF.out.block km HR9.out.lt (Ne.symm hrk)) HBW.out)
      have HRES := Lib.hid (show PutRes d its b d true 0 (iput its d b) from by unfold PutRes; rw [HG1.out]; simp only; rw [if_neg hfull]; trivial)
      clear hlt hrk HFR HCV HR9 HM0 HS0 HBE hfull hf' hu33 hi33
      go_upto_region 13 with fail
      go_wp2_with (first | (with_reducible refine wpList_ld rfl 33 (.tmp 9) rfl ⟨ki, 0, none⟩ rfl _ HLD.out ?_) | (refine wpList_store_mid rfl 33 (.tmp 4) (.tmp 57) rfl w.heap.size 0 (cl d).toArray rfl rfl HTH.out HSZ.out HON.out ?_))
      exact bodyPost_ret (v := .tuple #[vId d, .bool true, .int .i64 0]) (results_list (rs := [.cell 4 33, .tmp 5, .tmp 6]) rfl (by simp) (.cell w.heap.size 33 (cl d).toArray (0, 0) _ rfl HF.out Tryd.underlying33 rfl HSZ.out (.tmp (.tmp .nil)))) rfl ⟨d, true, 0, _, rfl, HRES.out, HST.out, HBW.out, HDL.out⟩
  · obtain ⟨Ao, co, hveq, hco, hCo⟩ := hov
    rw [g2] at HLK
    obtain ⟨zo, hz1, hz2⟩ := iget_mem g1
    have hbo : ∀ y ∈ old, Byte y := hz2 ▸ HIT.out zo hz1
    have HEQ := Lib.hid (fun W (hb : Below w7.heap.size w7 W) => equal_walk Ao A co c old b W (Kd.C_below hCo hb) (Kd.C_below HC.out (HB7.out.trans (hb.mono HB7.out.size))) hco (by rw [HN.out]; exact hc) hbo HBY.out)
    have HG1 := Lib.hid g1
    obtain ⟨No, hNo⟩ : ∃ No, old.length = No := ⟨_, rfl⟩
    rw [HN.out, hNo] at HEQ
    rw [hNo] at hveq
    subst hveq
    clear hm0 hs0 hm hs g1 g2 hz1 hz2 hbo hCo hco hNo
    refine wp_region_cls (by kernel_rfl) (by kernel_rfl) ?_
    repeat (first | go_big_quiet_skip | (go_big_quiet_want; refine quiet_ld 33 (.tmp 9) rfl ⟨ki, 0, none⟩ rfl (vId d) HL1.out ?_; (try simp only [Act.put, List.setIfInBounds_toArray, List.set_cons_zero, List.set_cons_succ]); go_big_quiet_on) | (go_big_quiet_want; refine quiet_look 70 (.tmp 26) (.tmp 27) true rfl (.map (some km)) (vId d) rfl rfl _ HLK.out ?_; (try simp only [Act.put, List.setIfInBounds_toArray, List.set_cons_zero, List.set_cons_succ]); go_big_quiet_on) | go_big_quiet_step (fail))
    refine wpQuiet_nil ?_
    rintro wy ⟨q, rfl⟩
    have HB8 := Lib.hid (HB7.out.trans (q.below.mono HB7.out.size))
    have HRV8 := Lib.hid (HRV7.out.below q.below)
    have HI8 := Lib.hid (HI.out.below q.below)
    have HEQ8 := Lib.hid (HEQ.out _ q.below)
    obtain ⟨w8, hw8⟩ : ∃ w8, q.at = w8 := ⟨_, rfl⟩
    rw [hw8] at HB8 HRV8 HI8 HEQ8 ⊢
    clear hw8 q HL1 HLK HS7 HI HRV7 HB7 c0 HEQ
    go_wp2_with fail
    refine HEQ8.out.mono ?_
    rintro e w9 ⟨rfl, hb9⟩
    have HB9 := Lib.hid (HB8.out.trans (hb9.mono HB8.out.size))
    have HRV9 := Lib.hid (HRV8.out.below hb9)
    have HI9 := Lib.hid (HI8.out.below hb9)
    by_cases heq : old = b
    · rw [decide_eq_true heq]
      have HLD := Lib.hid (HI9.out.loads 33 Tryd.isAgg33 (fun W => by rw [List.length_map, HDL.out]; exact Tryd.sizeOf33 W))
      have HTH := Lib.hid (HRV9.out.there 0 (cl d).toArray.size (by rw [List.size_toArray, List.length_map, HDL.out]; simp))
      have HSZ := Lib.hid (size33' HDL.out)
      have HON := Lib.hid (one33 d)
      have HF := Lib.hid (ret_id d HDL.out HRV9.out HB9.out (Nat.le_refl _))
      have HRES := Lib.hid (show PutRes d its b d false 0 its from by unfold PutRes; rw [HG1.out]; exact ⟨rfl, rfl, .inl ⟨heq, rfl, rfl⟩⟩)
      have HSF := Lib.hid (HS.out.below HF.out.2)
      clear hb9 heq HEQ8
      go_wp2_with (first | (with_reducible refine wpList_ld rfl 33 (.tmp 9) rfl ⟨ki, 0, none⟩ rfl _ HLD.out ?_) | (refine wpList_store_mid rfl 33 (.tmp 4) (.tmp 38) rfl w.heap.size 0 (cl d).toArray rfl rfl HTH.out HSZ.out HON.out ?_))
      exact bodyPost_ret (v := .tuple #[vId d, .bool false, .int .i64 0]) (results_list (rs := [.cell 4 33, .tmp 5, .tmp 6]) rfl (by simp) (.cell w.heap.size 33 (cl d).toArray (0, 0) _ rfl HF.out.1 Tryd.underlying33 rfl HSZ.out (.tmp (.tmp .nil)))) rfl ⟨d, false, 0, its, rfl, HRES.out, HSF.out, But.of_below HF.out.2, HDL.out⟩
    · rw [decide_eq_false heq]
      have HTH := Lib.hid (HRV9.out.there 0 (cl zid).toArray.size (by simp [zid]))
      have HSZ := Lib.hid (size33' (D := zid) (by decide))
      have HON := Lib.hid (one33 zid)
      have HF := Lib.hid (ret_id zid (by decide) HRV9.out HB9.out (Nat.le_refl _))
      have HRES := Lib.hid (show PutRes d its b zid false 45 its from by unfold PutRes; rw [HG1.out]; exact ⟨rfl, rfl, .inr ⟨heq, rfl⟩⟩)
      have HSF := Lib.hid (HS.out.below HF.out.2)
      clear hb9 heq HEQ8
      go_wp2_with (refine wpList_store_mid rfl 33 (.tmp 4) (.tmp 41) rfl w.heap.size 0 (cl zid).toArray rfl rfl HTH.out HSZ.out HON.out ?_)
      exact bodyPost_ret (v := .tuple #[vId zid, .bool false, .int .i64 45]) (results_list (rs := [.cell 4 33, .tmp 5, .tmp 6]) rfl (by simp) (.cell w.heap.size 33 (cl zid).toArray (0, 0) _ rfl HF.out.1 Tryd.underlying33 rfl HSZ.out (.tmp (.tmp .nil)))) rfl ⟨zid, false, 45, its, rfl, HRES.out, HSF.out, But.of_below HF.out.2, by decide⟩
end Go.Proofs.YtfbkkcigkpffiaaDoor.St

namespace Go.Proofs.YtfbkkcigkpffiaaDoor.St
open Go.MapKept (heap_set)
open Go Go.Lib Go.RowKit Go.ChangeMaps Go.Proofs.YtfbkkcigkpffiaaDoorW.PrintWords Go.Proofs.YtfbkkcigkpffiaaDoorW.PrintLast Go.Proofs.YtfbkkcigkpffiaaDoorW.PrintMore Go.Proofs.YtfbkkcigkpffiaaDoor.PStoreMany
set_option linter.unusedVariables false
set_option linter.unusedSimpArgs false
theorem kdel_mem {x : By × Value} {k : By} : ∀ {kv : KV}, x ∈ kdel kv k → x ∈ kv
  | [], h => by cases h
  | (a, y) :: r, h => by
    unfold kdel at h
    by_cases e : a = k
    · rw [if_pos e] at h; exact List.mem_cons_of_mem _ h
    · rw [if_neg e] at h
      rcases List.mem_cons.1 h with h | h
      · rw [h]; exact List.mem_cons_self
      · exact List.mem_cons_of_mem _ (kdel_mem h)
set_option maxRecDepth 200000 in
theorem IMap.delete {w : World} {b : Nat} {kv : KV} (h : IMap w b kv) {k : By} (hk : k.length = 32) (ty : TypeId) :
    ∃ o, (Builtin.delete_ #[70, 33] ty #[.map (some b), vId k]).run Tryd.prog w = .ok (.tuple #[]) (setBlock w b o) ∧ IMap (setBlock w b o) b (kdel kv k) := by
  obtain ⟨es, clock, hb, hm, hborn, hnd, h32⟩ := h
  have h1 := check33 hk es.isEmpty w
  rcases find_ix w hk es.toList kv hm h32 with ⟨g1, _, g3, g4⟩ | ⟨j, v0, e, g1, ge, _, gk, g5, _, g7⟩
  · have h2 := (findKey33 w (vId k) es.toList).trans (g4 0)
    refine ⟨.map es clock, ?_, es, clock, (heap_set hb).1, ?_, hborn, hnd, ?_⟩
    · simp [Builtin.delete_, run_underlying Tryd.underlying70, MapKept.run_getObj_map (P := Tryd.prog) hb, h1, h2, MapKept.run_setObj_map (P := Tryd.prog) _ hb, Result.andThen, setBlock]
    · rw [g3]; exact hm
    · rw [g3]; exact h32
  · have h2 := (findKey33 w (vId k) es.toList).trans (g5 0)
    have hj : j < es.size := by
      have := (List.getElem?_eq_some_iff.1 ge).1
      simpa using this
    refine ⟨.map (es.eraseIdx j hj) clock, ?_, _, _, (heap_set hb).1, ?_, ?_, ?_, ?_⟩
    · simp [Builtin.delete_, run_underlying Tryd.underlying70, MapKept.run_getObj_map (P := Tryd.prog) hb, h1, h2, MapKept.run_setObj_map (P := Tryd.prog) _ hb, Result.andThen, setBlock, Array.eraseIdxIfInBounds, hj]
    · rw [Array.toList_eraseIdx]; exact g7
    · intro x hx
      rw [Array.toList_eraseIdx] at hx
      exact hborn x (List.mem_of_mem_eraseIdx hx)
    · rw [Array.toList_eraseIdx]
      exact hnd.sublist ((List.eraseIdx_sublist _ _).map _)
    · intro x hx
      exact h32 x (kdel_mem hx)
set_option maxRecDepth 100000 in
set_option maxHeartbeats 4000000 in
theorem remove_walk (ks km : Nat) (its : Its) (d : By) (hd : d.length = 32) (w : World) (h : StoreAt w ks km its) :
    Calls Tryd.prog 17 #[.pointer (some ⟨ks, 0, none⟩), vId d] w fun e w' => e = .returned (.bool (iget its d).isSome) ∧ StoreAt w' ks km (idel its d) ∧ But km w w' := by
  obtain ⟨w1, hw1⟩ : ∃ w1, w.alloc (.cells (cl d).toArray 33) = w1 := ⟨_, rfl⟩
  have HW1 := Lib.hid hw1
  have HDL := Lib.hid hd
  have HB1 := Lib.hid (show Below w.heap.size w w1 from hw1 ▸ below_alloc (Below.refl _ _) _)
  have HI := Lib.hid (show Blk w1 w.heap.size 33 (cl d) from hw1 ▸ Blk.new w 33 (cl d))
  have HS := Lib.hid h
  have HS1 := Lib.hid (h.below HB1.out)
  have HH := Lib.hid (has_walk ks km its d hd w1 HS1.out)
  have HL1 := Lib.hid (HI.out.loads 33 Tryd.isAgg33 (fun W => by rw [List.length_map, hd]; exact Tryd.sizeOf33 W))
  obtain ⟨x, hx⟩ : ∃ x, (iget its d).isSome = x := ⟨_, rfl⟩
  rw [hx] at HH ⊢
  clear h hw1 hx hd
  go_enter Tryd.func17, Tryd.ntmps17
  go_upto_region 1 with (fail)
  rw [HW1.out]
  go_wp2_with (with_reducible refine wpList_ld rfl 33 (.tmp 3) rfl ⟨w.heap.size, 0, none⟩ rfl _ HL1.out ?_)
  refine HH.out.mono ?_
  rintro e w2 ⟨rfl, hb2⟩
  have HB2 := Lib.hid (HB1.out.trans (hb2.mono HB1.out.size))
  have HI2 := Lib.hid (HI.out.below hb2)
  have HS2 := Lib.hid (HS1.out.below hb2)
  clear hb2 HH HL1 HW1
  obtain ⟨kv, hm, hs⟩ := HS.out.map
  have HM := Lib.hid hm
  have HSM := Lib.hid hs
  have HM2 := Lib.hid (hm.below HB2.out)
  have HKM := Lib.hid (show w.heap.size ≠ km from HM2.out.ne (HI2.out.cell 0 |>.trans (show (cl d)[0]? = some ((cl d)[0]'(by rw [List.length_map, HDL.out]; decide)) from List.getElem?_eq_getElem _)))
  clear hm hs
  go_upto_region 2 with (fail)
  have HSX := Lib.hid (fun w' (hb : But km w2 w') => (show w'.cell? ⟨ks, 0, none⟩ = some (.map (some km)) ∧ w'.rangeAt w.heap.size 0 (cl d) from ⟨(HS2.out.blk.but hb (HM2.out.ne (HS2.out.blk.cell 0))).cell 0, fun j v hv => by rw [Nat.zero_add, (HI2.out.but hb HKM.out).cell j]; exact hv⟩))
  have hu33 := Tryd.underlying33
  have hi33 : (Tryd.prog.info? 33).map (·.size) = some (cl d).length := by rw [List.length_map, HDL.out]; exact size33
  go_region_held3 (fun w' => w'.cell? ⟨ks, 0, none⟩ = some (.map (some km)) ∧ w'.rangeAt w.heap.size 0 (cl d))
    (first | assumption | exact HSX.out _ (But.of_below (pw_below_drewN (Below.refl _ _) 1)) | exact HSX.out _ (But.of_below (by assumption)))
    (first | (obtain ⟨ob, hrun, r1⟩ := IMap.delete (w := w2.drew) (HM2.out.below (below_drew (Below.refl _ _))) HDL.out 0; rw [show Sem.run Tryd.prog (Builtin.delete_ #[70, 33] 0 #[Value.map (some km), Value.agg (cl d).toArray]) w2.drew = _ from hrun]; have HR9 := Lib.hid r1; have HBE := Lib.hid ((But.of_below (show Below w2.heap.size w2 w2.drew from below_drew (Below.refl _ w2))).trans (but_put (HM2.out.below (below_drew (Below.refl _ _))) ob)); have hS9 := HSX.out _ HBE.out))
  obtain ⟨wE, hwE⟩ : ∃ wE, setBlock w2.drew km ob = wE := ⟨_, rfl⟩
  rw [hwE] at HR9 HBE ⊢
  have HBW := Lib.hid ((But.of_below (k := km) HB2.out).trans HBE.out)
  have HST := Lib.hid (show StoreAt wE ks km (idel its d) from ⟨HS.out.blk.but HBW.out (HM.out.ne (HS.out.blk.cell 0)), _, HR9.out, (HSM.out.imp (fun _ _ q => IsB.but HM.out HBW.out q)).del d⟩)
  clear hwE hS9 HSX hu33 hi33 hrun r1
  go_upto_region 3 with fail
  go_wp2_with fail
  go_ret
  exact ⟨rfl, HST.out, HBW.out⟩
set_option maxRecDepth 100000 in
set_option maxHeartbeats 4000000 in
theorem get_walk (ks km : Nat) (its : Its) (d : By) (hd : d.length = 32) (w : World) (h : StoreAt w ks km its) (hl : ∀ b, iget its d = some b → b.length ≤ 1000000000) :
    Calls Tryd.prog 19 #[.pointer (some ⟨ks, 0, none⟩), vId d] w fun e w' => Below w.heap.size w w' ∧ ((iget its d = none ∧ e = .returned (.tuple #[.slice none 0 0, .int .i64 41])) ∨ ∃ b v, iget its d = some b ∧ e = .returned (.tuple #[v, .int .i64 0]) ∧ IsB w' v b) := by
  obtain ⟨w1, hw1⟩ : ∃ w1, w.alloc (.cells (cl d).toArray 33) = w1 := ⟨_, rfl⟩
  have HW1 := Lib.hid hw1
  have HB1 := Lib.hid (show Below w.heap.size w w1 from hw1 ▸ below_alloc (Below.refl _ _) _)
  have HI := Lib.hid (show Blk w1 w.heap.size 33 (cl d) from hw1 ▸ Blk.new w 33 (cl d))
  have HS := Lib.hid (h.below HB1.out)
  have c0 : ∀ q : Cls w1, q.at.cell? ⟨ks, 0, none⟩ = some (.map (some km)) := fun q => q.cell (HS.out.blk.cell 0)
  have HL1 := Lib.hid (fun w' (hb : Below w1.heap.size w1 w') => (HI.out.below hb).loads 33 Tryd.isAgg33 (fun W => by rw [List.length_map, hd]; exact Tryd.sizeOf33 W))
  obtain ⟨v, x, hv, hcase⟩ : ∃ v x, (∀ w', Below w1.heap.size w1 w' → (Instr.lookup 70 (.map (some km)) (vId d) true).run Tryd.prog w' = .ok (.tuple #[v, .bool x]) w') ∧ ((iget its d = none ∧ x = false) ∨ ∃ b A c, iget its d = some b ∧ x = true ∧ v = .slice A b.length c ∧ b.length ≤ c ∧ Kd.C kB w1 A b.length b) := by
    obtain ⟨kv, hm, hs⟩ := HS.out.map
    refine ⟨(kget kv d).getD (.slice none 0 0), (kget kv d).isSome, fun w' hb => ?_, ?_⟩
    · rw [(hm.below hb).lookup hd true]; rfl
    · rcases hs.get d with ⟨h1, h2⟩ | ⟨v, b, h1, h2, A, c, h3, h4, h5⟩
      · rw [h2]; exact .inl ⟨h1, rfl⟩
      · rw [h2]; exact .inr ⟨b, A, c, h1, rfl, h3, h4, h5⟩
  have HLK := Lib.hid hv
  have HCA := Lib.hid hcase
  have HL := Lib.hid hl
  clear h hw1 hv hcase hl
  go_enter Tryd.func19, Tryd.ntmps19
  go_upto_region 1 with (fail)
  rw [HW1.out]
  refine wp_region_cls (by kernel_rfl) (by kernel_rfl) ?_
  repeat (first | go_big_quiet_skip | (go_big_quiet_want; refine quiet_ld 33 (.tmp 3) rfl ⟨w.heap.size, 0, none⟩ rfl (vId d) HL1.out ?_; (try simp only [Act.put, List.setIfInBounds_toArray, List.set_cons_zero, List.set_cons_succ]); go_big_quiet_on) | (go_big_quiet_want; refine quiet_look 70 (.tmp 12) (.tmp 13) true rfl (.map (some km)) (vId d) rfl rfl (.tuple #[v, .bool x]) HLK.out ?_; (try simp only [Act.put, List.setIfInBounds_toArray, List.set_cons_zero, List.set_cons_succ]); go_big_quiet_on) | go_big_quiet_step (fail))
  refine wpQuiet_nil ?_
  rintro wy ⟨q, rfl⟩
  have HB := Lib.hid (HB1.out.trans (q.below.mono HB1.out.size))
  have HBQ := Lib.hid q.below
  obtain ⟨w8, hw8⟩ : ∃ w8, q.at = w8 := ⟨_, rfl⟩
  rw [hw8] at HB HBQ ⊢
  clear c0 hw8 q HL1 HLK
  rcases HCA.out with ⟨hg, hx⟩ | ⟨b, A, c, hg, hx, hveq, hlc, hC⟩
  · subst hx
    have HG := Lib.hid hg
    clear hg
    go_wp2_with fail
    exact bodyPost_ret (v := .tuple #[.slice none 0 0, .int .i64 41]) (results_list (rs := [.tmp 4, .tmp 5]) rfl (by simp) (.tmp (.tmp .nil))) rfl ⟨HB.out, .inl ⟨HG.out, rfl⟩⟩
  · have HCL := Lib.hid (clone_walk b A c w8 (Kd.C_below hC HBQ.out) (HL.out b hg))
    subst hveq
    subst hx
    have HG := Lib.hid hg
    clear hg hC hlc
    obtain ⟨N, hN⟩ : ∃ N, b.length = N := ⟨_, rfl⟩
    rw [hN] at HCL
    simp only [hN]
    clear hN
    go_wp2_with fail
    refine HCL.out.mono ?_
    rintro e w9 ⟨cv, rfl, hcv, _, hb9⟩
    have HB9 := Lib.hid (HB.out.trans (hb9.mono HB.out.size))
    have HCV := Lib.hid hcv
    clear hcv hb9
    go_wp2_with fail
    exact bodyPost_ret (v := .tuple #[cv, .int .i64 0]) (results_list (rs := [.tmp 4, .tmp 5]) rfl (by simp) (.tmp (.tmp .nil))) rfl ⟨HB9.out, .inr ⟨b, cv, HG.out, rfl, HCV.out⟩⟩
end Go.Proofs.YtfbkkcigkpffiaaDoor.St
