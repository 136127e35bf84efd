/- The walk of a hash's Sum. -/
import Derived.Test.YtfbkkcigkpffiaaDoorGa
import Derived.Deep.MidRow
import Derived.Stop.BytesEq
import Derived.MapKept
import Derived.WideKeyRuns
import Derived.Maps.Own
import Derived.Maps.RangeRun
namespace Go.Proofs.YtfbkkcigkpffiaaDoor.St
open Go Go.Lib Go.RowKit Go.ChangeMaps Go.Proofs.YtfbkkcigkpffiaaDoorW.PrintWords Go.Proofs.YtfbkkcigkpffiaaDoorW.PrintLast Go.Proofs.YtfbkkcigkpffiaaDoorW.PrintMore Go.Proofs.YtfbkkcigkpffiaaDoor.PStoreMany
set_option linter.unusedVariables false
set_option linter.unusedSimpArgs false
/-- The bytes behind a message: a first one, noughts, how many bits. -/
def padz (hv : Nat) : Nat := (119 - hv) % 64
theorem size112 : (Tryd.prog.info? 112).map (·.size) = some 74 := by kernel_rfl
abbrev noughts (n : Nat) : List Value := List.replicate n (b8 0)
theorem zero112 : Tryd.zeroCells112.toList.length = 74 := by kernel_rfl
theorem mod_same (x d : Nat) (h1 : x % 64 = 56) (h2 : (x + d) % 64 = 56) (hd : d < 64) : d = 0 := by
  rw [Nat.add_mod, h1] at h2
  rw [Nat.mod_eq_of_lt hd] at h2
  by_cases h : 56 + d < 64
  · rw [Nat.mod_eq_of_lt h] at h2; omega
  · rw [Nat.mod_eq_sub_mod (by omega), Nat.mod_eq_of_lt (by omega)] at h2; omega
abbrev kB := Kd.int .u8
/-- A row of bytes that is a block's beginning. -/
theorem R_blk {w : World} {g n cap : Nat} {cs : List Value} {xs : List Int} (h : Blk w g 5 cs) (hl : cs.length = cap) (hn : xs.length = n) (hc : n ≤ cap) (hm : cap ≤ 9223372036854775807) (ht : cs.take n = xs.map b8) :
    kB.R 5 w g (fun q => g ≤ q) (.slice (some ⟨g, 0, none⟩) n cap) xs := by
  subst hn
  refine Kd.R_of_own ⟨by simp [encs], .inr ⟨g, cap, cs.toArray, rfl, Nat.le_refl _, h, hc, hm, by simp [hl], ?_⟩⟩ (fun q hq => ?_)
  · rw [Nat.mul_one, List.toList_toArray, ht]
    rfl
  · have : g = q := by simpa [Value.ownBlock] using hq
    omega
def bitsN (bt t : Nat) : List Int := (List.range t).map (fun j => ((bt / 2 ^ (8 * (7 - j)) % 256 : Nat) : Int))
def endB (pz bt : Nat) : List Int := 128 :: (List.replicate pz 0 ++ bitsN bt 8)
abbrev zeros32 : List Int := List.replicate 32 0
/-- A word's four bytes laid down. -/
def setb (x : Int) (i q : Nat) (L : List Int) : List Int := L.set (4 * i + q) (x / 2 ^ (24 - 8 * q) % 256)
theorem setb_len (x : Int) (i q : Nat) (L : List Int) : (setb x i q L).length = L.length := by simp [setb]
def outw (tw : List Int) (i : Nat) (L : List Int) : List Int := run (setb (tw.getD i 0) i) 4 L
theorem outw_len (tw : List Int) (i : Nat) (L : List Int) : (outw tw i L).length = L.length := run_len (setb_len _ i) 4 L rfl
theorem idx_word (tw : List Int) (hl : tw.length = 8) (i : Nat) (hi : i < 8) (W : World) : (Instr.index 109 (.agg (us tw).toArray) (.int .i64 (i : Int))).run Tryd.prog W = .ok (u (tw.getD i 0)) W := by
  unfold Instr.index
  simp only [asIntOf, Sem.run_bind, Sem.run_pure, Result.andThen_ok, run_underlying Tryd.underlying109]
  rw [if_pos (by omega)]
  simp only [Sem.run_bind, Tryd.sizeOf108, Result.andThen_ok, Int.toNat_natCast, Nat.mul_one]
  unfold Go.part
  rw [Sem.run_bind, Tryd.isAgg108]
  simp only [Result.andThen_ok]
  rw [List.getD_eq_getElem?_getD, List.getElem?_eq_getElem (by omega)]
  simp [us, hl, hi]
/-- The words as bytes. -/
def idOf (tw : List Int) : List Int := run (outw tw) 8 zeros32
theorem size33 : (Tryd.prog.info? 33).map (·.size) = some 32 := by kernel_rfl
/-- What Sum tells of a hash. -/
noncomputable def sumOf (rk : Nat → Int) (s : Hs) : List Int := idOf (written rk { s with al := s.al + (padz s.hv + 9) } (endB (padz s.hv) (8 * s.al))).ws
set_option maxRecDepth 100000 in
set_option maxHeartbeats 4000000 in
theorem sumh_walk (bg : List Int) (rk : Nat → Int) (k : Nat) (s : Hs) (w : World) (hT : Tabs bg rk w) (h : HashAt w k s) (hv : s.hv < 64) (hal : s.al ≤ 1152921504606846976) :
    Calls Tryd.prog 44 #[.pointer (some ⟨k, 0, none⟩)] w fun e w' => e = .returned (.agg ((sumOf rk s).map b8).toArray) ∧ Below w.heap.size w w' := by
  have HH := Lib.hid h
  have HT := Lib.hid hT
  obtain ⟨w1, hw1⟩ : ∃ w1, w.alloc (.cells (noughts 32).toArray 33) = w1 := ⟨_, rfl⟩
  have HB1 := Lib.hid (show Below w.heap.size w w1 from hw1 ▸ below_alloc (Below.refl _ _) _)
  have HRV := Lib.hid (show Blk w1 w.heap.size 33 (noughts 32) from hw1 ▸ Blk.new w 33 (noughts 32))
  have HW1 := Lib.hid hw1
  have hlen := Hs.len h.2
  have HLD := Lib.hid ((h.1.below HB1.out).loads 112 Tryd.isAgg112 (fun W => by rw [hlen]; exact Tryd.sizeOf112 W))
  obtain ⟨w2, hw2⟩ : ∃ w2, w1.alloc (.cells Tryd.zeroCells112 112) = w2 := ⟨_, rfl⟩
  have HW2 := Lib.hid hw2
  have HZ := Lib.hid (show Blk w2 w1.heap.size 112 Tryd.zeroCells112.toList from by
    have h9 := Blk.new w1 112 Tryd.zeroCells112.toList
    rw [Array.toArray_toList, hw2] at h9
    exact h9)
  have HTH := Lib.hid (show w2.there w1.heap.size 0 s.cells.toArray.size from by
    refine HZ.out.there 0 _ ?_
    rw [List.size_toArray, Hs.len h.2, zero112]; decide)
  have HSZ := Lib.hid (show (Tryd.prog.info? 112).map (·.size) = some s.cells.toArray.size from by rw [List.size_toArray, Hs.len h.2]; exact size112)
  clear h hT hw1 hw2 hlen
  go_enter Tryd.func44, Tryd.ntmps44
  go_upto_region 1 with (fail)
  change Code.wp _ _ _ _ (w.alloc (.cells (noughts 32).toArray 33))
  rw [HW1.out]
  go_upto_region 2 with (first | (with_reducible refine wpList_ld rfl 112 (.tmp 12) rfl ⟨k, 0, none⟩ rfl _ HLD.out ?_) | (rw [HW2.out]; refine wpList_store_mid rfl 112 (.tmp 3) (.tmp 13) rfl w1.heap.size 0 s.cells.toArray rfl rfl HTH.out HSZ.out (all_oneCell_toArray s.one) ?_))
  obtain ⟨kc, hkc⟩ : ∃ kc, w1.heap.size = kc := ⟨_, rfl⟩
  rw [hkc]
  have HKC := Lib.hid hkc
  have hls : s.cells.length = Tryd.zeroCells112.toList.length := by rw [Hs.len HH.out.2, zero112]
  have HC3 := Lib.hid (show HashAt (w2.setCells kc 0 s.cells) kc s from ⟨by
    have h9 := Blk.setCells s.cells 0 w2 _ (hkc ▸ HZ.out)
    rw [sets_all _ _ hls] at h9
    exact h9, HH.out.2⟩)
  have HB3 := Lib.hid (show Below w1.heap.size w1 (w2.setCells kc 0 s.cells) from (But.setCells (k := kc) s.cells 0 w2 (But.of_below (show Below w1.heap.size w1 w2 from HW2.out ▸ below_alloc (Below.refl _ _) _))).new (by omega))
  obtain ⟨w3, hw3⟩ : ∃ w3, w2.setCells kc 0 s.cells = w3 := ⟨_, rfl⟩
  rw [hw3] at HC3 HB3 ⊢
  have HSZ3 := Lib.hid (show w3.heap.size = kc + 1 from by rw [← hw3, setCells_size, ← HW2.out, ← hkc]; simp)
  have ca := HC3.out.all
  clear hw3 hkc hls HZ HTH HSZ HLD
  go_upto_region 3 with (fail)
  obtain ⟨bt, hbt⟩ : ∃ bt : Nat, bt = 8 * s.al := ⟨_, rfl⟩
  have hb8 : (8 : Int) * (s.al : Int) = (bt : Int) := by omega
  have HBT := Lib.hid hbt
  have hbtb : bt ≤ 9223372036854775808 := by omega
  clear hbt
  obtain ⟨ke, hke⟩ : ∃ ke, w3.heap.size = ke := ⟨_, rfl⟩
  obtain ⟨i5, hi5, hz5, hs5, hby5⟩ := info_parts info5
  have hms := run_makeSlice (P := Tryd.prog) (w := w3) 30 5 i5 (.int .u8 0) Tryd.underlying30 hi5 hz5 .i64 .i64 1 72 (by decide) (by decide) (by rw [hs5]; decide) (by rw [hby5]; decide) (by decide)
  rw [hs5, hke, show madeCells (Value.int IntKind.u8 0).cells (Int.toNat 72 * 1) = (noughts 72).toArray from by kernel_rfl] at hms
  simp only [Int.toNat_one, show (72 : Int).toNat = 72 from rfl] at hms
  obtain ⟨w4, hw4⟩ : ∃ w4, w3.alloc (.cells (noughts 72).toArray 5) = w4 := ⟨_, rfl⟩
  have hE4 : Blk w4 ke 5 (noughts 72) := hke ▸ hw4 ▸ Blk.new w3 5 (noughts 72)
  have HB4 := Lib.hid (show Below ke w3 w4 from hke ▸ hw4 ▸ below_alloc (Below.refl _ _) _)
  rw [hw4] at hms
  have HKE := Lib.hid hke
  have e0 := hE4.cell 0
  have f0 := hE4.frozen 0
  rw [show (noughts 72)[0]? = some (b8 0) from rfl] at e0
  have HE4 := Lib.hid hE4
  clear hke hw4 hi5 hz5 hs5 hby5 hE4 ca
  go_upto_region 4 with (fail)
  clear hms
  go_wp2_with fail
  have HE5 := Lib.hid (show Blk (w4.setCell ⟨ke, 0, none⟩ (.int .u8 128)) ke 5 (b8 128 :: noughts 71) from HE4.out.set 0 (b8 128))
  have HB5 := Lib.hid (show Below ke w3 (w4.setCell ⟨ke, 0, none⟩ (.int .u8 128)) from HB4.out.setCell (p := ⟨ke, 0, none⟩) (Nat.le_refl _) _)
  obtain ⟨w5, hw5⟩ : ∃ w5, w4.setCell ⟨ke, 0, none⟩ (.int .u8 128) = w5 := ⟨_, rfl⟩
  rw [hw5] at HE5 HB5 ⊢
  have HR5 := Lib.hid (R_blk (n := 1) (cap := 72) (xs := [128]) HE5.out rfl rfl (by decide) (by decide) rfl)
  clear hw5 e0 f0 HE4 HB4 HE5
  rw [hb8]
  clear hb8
  obtain ⟨hv0, hhv⟩ : ∃ x, s.hv = x := ⟨_, rfl⟩
  have HHV := Lib.hid hhv
  rw [hhv] at hv
  have hcv := HC3.out.have_
  rw [hhv] at hcv
  have HCV := Lib.hid hcv
  obtain ⟨pz, hpz⟩ : ∃ p, p = padz hv0 := ⟨_, rfl⟩
  have hpz1 : pz < 64 := by rw [hpz]; unfold padz; omega
  have hpz2 : (hv0 + 1 + pz) % 64 = 56 := by rw [hpz]; unfold padz; omega
  have HPZ := Lib.hid hpz
  have hkck : kc < ke := by have := HKE.out; have := HSZ3.out; omega
  clear hhv hcv hpz
  go_loopw [5] (fun v5 wr => ∃ (j : Nat), j ≤ pz ∧ kB.R 5 wr ke (fun q => ke ≤ q) v5 (128 :: List.replicate j 0) ∧ Below ke w3 wr) (fun v5 _ => 65 - slen v5)
  case atStart => exact ⟨0, Nat.zero_le _, HR5.out, HB5.out⟩
  case round =>
    obtain ⟨j, hj, hr, hb⟩ := hrel
    clear HR5 HB5
    obtain ⟨A5, c5, rfl⟩ := Kd.R_slice hr
    rw [show (128 :: List.replicate j (0 : Int)).length = j + 1 from by simp] at hr ⊢
    have HR := Lib.hid hr
    have HB := Lib.hid hb
    have ch : wr.cell? ⟨kc, 72, none⟩ = some (.int .i64 (hv0 : Int)) := (hb.cell (p := ⟨kc, 72, none⟩) hkck).trans HCV.out
    obtain ⟨n, hn⟩ : ∃ n, j + 1 = n := ⟨_, rfl⟩
    rw [hn] at hr ⊢
    obtain ⟨m2, hm2⟩ : ∃ m, hv0 + n = m := ⟨_, rfl⟩
    have hsum : (hv0 : Int) + (n : Int) = (m2 : Int) := by omega
    have HN := Lib.hid hn
    have hnb : n ≤ 65 := by omega
    have hcap := (Kd.R_reads' hr).2.1
    obtain ⟨r, hr2⟩ : ∃ r, m2 % 64 = r := ⟨_, rfl⟩
    have hrem : Int.tmod (m2 : Int) 64 = (r : Int) := by rw [← hr2]; rfl
    have hrem2 : (m2 : Int) % 64 = (r : Int) := by omega
    by_cases he : r = 56
    · have hjp : j = pz := by
        have h9 := mod_same m2 (pz - j) (by omega) (by rw [show m2 + (pz - j) = hv0 + 1 + pz by omega]; exact hpz2) (by omega)
        omega
      have he' : (r : Int) = 56 := by omega
      have HRZ := Lib.hid (show kB.R 5 wr ke (fun q => ke ≤ q) (.slice A5 n c5) (128 :: List.replicate pz 0) from by rw [← hjp]; exact hr)
      have HBZ := Lib.hid hb
      have HNZ := Lib.hid (show n = pz + 1 from by omega)
      have hnb2 : n ≤ 64 := by omega
      clear he hr hb hn hm2 hr2 hjp
      go_wp2_with fail
      obtain ⟨wa, rfl⟩ : ∃ wa, wa = wr := ⟨_, rfl⟩
      go_loopw [5, 6] (fun v5 v6 wr => ∃ (t : Nat) (z : Int), t ≤ 8 ∧ z = 7 - (t : Int) ∧ v6 = .int .i64 z ∧ kB.R 5 wr ke (fun q => ke ≤ q) v5 (128 :: (List.replicate pz 0 ++ bitsN bt t)) ∧ Below ke w3 wr) (fun _ v6 _ => (RowKit.intOf v6 + 1).toNat)
      case atStart => exact ⟨0, 7, by decide, by decide, rfl, by simpa [bitsN] using HRZ.out, HBZ.out⟩
      case round =>
        obtain ⟨t, z, ht, hz, rfl, hr, hb⟩ := hrel
        clear HRZ HBZ
        obtain ⟨A5, c5, rfl⟩ := Kd.R_slice hr
        have HR := Lib.hid hr
        have HB := Lib.hid hb
        obtain ⟨xs, hxs⟩ : ∃ xs, (128 :: (List.replicate pz (0 : Int) ++ bitsN bt t)) = xs := ⟨_, rfl⟩
        have hxl : xs.length ≤ 72 := by rw [← hxs]; simp [bitsN]; omega
        obtain ⟨n, hn⟩ : ∃ n, xs.length = n := ⟨_, rfl⟩
        rw [hxs] at HR ⊢
        rw [hn] at HR hxl ⊢
        have HXS := Lib.hid hxs
        have HNX := Lib.hid hn
        clear hr hb hxs hn
        by_cases hlt : t < 8
        · obtain ⟨e, he⟩ : ∃ e : Nat, e = 7 - t := ⟨_, rfl⟩
          have hze : z = (e : Int) := by omega
          subst hze
          have he7 : e ≤ 7 := by omega
          have HE := Lib.hid he
          have hw8 : IntKind.i64.wrap (8 * (e : Int)) = ((8 * e : Nat) : Int) := by rw [IntWalk.i64_in _ (by omega)]; omega
          clear hz he
          have HBE := Lib.hid (show xs ++ [(bt : Int) / 2 ^ (8 * e) % 256] = 128 :: (List.replicate pz 0 ++ bitsN bt (t + 1)) from by
            rw [← HXS.out]
            unfold bitsN
            rw [List.range_succ, List.map_append, List.map_singleton, ← HE.out]
            simp)
          go_upto_region 9 with (first | (at_builtin; refine Kd.R_append kB (W := wr) (w0 := w3) ke rfl (.tmp 34) (.tmp 40) 30 5 _ 1 rfl Tryd.underlying30 info5 rfl (by decide) (by decide) (.slice A5 n c5) xs ((bt : Int) / 2 ^ (8 * e) % 256) [b8 ((bt : Int) / 2 ^ (8 * e) % 256)] (fun q => ke ≤ q) (fun _ => False) rfl rfl rfl (fun _ hk => hk.elim) (fun q hq => by have := HB.out.size; have := HKE.out; omega) HR.out HB.out (by have := HB.out.size; have := HKE.out; omega) (by rw [HNX.out]; omega) ?_; intro v6 w6 hr6 hb6 hg6 hat6; have HR6 := Lib.hid hr6; have HB6 := Lib.hid hb6; clear hr6 hb6 hg6 hat6))
          rw [HBE.out] at HR6
          clear hw8
          have hz1 : IntKind.i64.wrap ((e : Int) - 1) = (e : Int) - 1 := IntWalk.i64_in _ (by omega)
          go_wp2_with fail
          go_roundw
          case rel =>
            have he9 := HE.out
            exact ⟨t + 1, (e : Int) - 1, by omega, by omega, rfl, HR6.out, HB6.out⟩
          all_goals (have he9 := HE.out; simp only [RowKit.intOf]; omega)
        · obtain rfl : t = 8 := by omega
          obtain rfl : z = -1 := by omega
          have HEB := Lib.hid (show xs = endB pz bt from by rw [← HXS.out]; rfl)
          have hnx : n = pz + 9 := by rw [← HNX.out, ← HXS.out]; simp [bitsN]
          obtain ⟨wb, rfl⟩ : ∃ wb, wb = wr := ⟨_, rfl⟩
          have HCB := Lib.hid (show HashAt wb kc s from ⟨(HB.out.block kc hkck).trans HC3.out.1, HC3.out.2⟩)
          have HTB := Lib.hid (show Tabs bg rk wb from by
            have hw : Below w.heap.size w wb := (HB1.out.trans ((HB3.out.mono (HB1.out.size)))).trans (HB.out.mono (by have := HKC.out; have := HB1.out.size; omega))
            exact HT.out.below hw)
          have HSR := Lib.hid (show Src kc wb A5 xs from by
            obtain ⟨_, _, hC⟩ := Kd.R_reads' HR.out
            refine ⟨by rw [HNX.out]; omega, fun hp => ?_⟩
            obtain ⟨g, cap, hge, hgk, _⟩ := Kd.R_form HR.out hp
            injection hge with hg1 _ _
            obtain ⟨ad, ha, hcell⟩ := hC.2.2 hp
            refine ⟨ad, ha, ?_, fun j x hj => ?_⟩
            · rw [hg1] at ha
              have := Option.some.inj ha
              rw [← this]
              show g ≠ kc
              omega
            · obtain ⟨cs, hl1, hk, hc⟩ := hcell j x hj
              have hk' : cs = [Value.int .u8 x] := hk
              subst hk'
              have := hc 0 _ rfl
              rwa [show (Kd.int .u8).sz = 1 from rfl, Nat.mul_one, Nat.add_zero] at this)
          have hw := write_walk rk kc s xs A5 c5 wb HCB.out HTB.out.r (by have h1 : 1 < w.heap.size := World.block_lt_of_cell? w _ (HT.out.r 0 (by decide)); have := HKC.out; have := HB1.out.size; omega) (by rw [HHV.out]; exact hv) HSR.out (by rw [HNX.out]; exact (Kd.R_reads' HR.out).2.1) (by rw [HNX.out]; omega)
          rw [HNX.out] at hw
          obtain ⟨T, hT⟩ : ∃ T, written rk { s with al := s.al + n } xs = T := ⟨_, rfl⟩
          rw [hT] at hw
          have HWR := Lib.hid hw
          have HTT := Lib.hid hT
          have HNP := Lib.hid hnx
          clear hw hT hnx
          go_upto_region 12 with (go_at_call 43; refine HWR.out.mono ?_; rintro e w6 ⟨rfl, hh6, hv6, hb6⟩; have HH6 := Lib.hid hh6; have HB6 := Lib.hid hb6; clear hh6 hb6)
          have HLW := Lib.hid (fun W (hb : Below w6.heap.size w6 W) => (show (Instr.loadAt 109 (.pointer (some ⟨kc, 0, none⟩))).run Tryd.prog W = .ok (.agg (us T.ws).toArray) W from by
            have hl := run_loadCells_list (P := Tryd.prog) W ⟨kc, 0, none⟩ (us T.ws) (fun j v hj => by
              rw [Addr.add_lit, Nat.zero_add]
              have h9 := (HH6.out.1.below hb).cell j
              rw [h9]
              unfold Hs.cells
              rw [List.getElem?_append_left (List.getElem?_eq_some_iff.1 hj).1]
              exact hj)
            rw [show (us T.ws).length = 8 by simp [HH6.out.2.ws]] at hl
            simp only [Instr.loadAt, Instr.sureAddr, Sem.run_bind, Sem.run_pure, Result.andThen_ok, loadVar, Tryd.isAgg109, if_true, Tryd.sizeOf109, hl]))
          obtain ⟨w7, hw7⟩ : ∃ w7, w6.alloc (.cells (noughts 32).toArray 33) = w7 := ⟨_, rfl⟩
          obtain ⟨ki, hki⟩ : ∃ ki, w6.heap.size = ki := ⟨_, rfl⟩
          have HI7 := Lib.hid (show Blk w7 ki 33 (noughts 32) from hki ▸ hw7 ▸ Blk.new w6 33 (noughts 32))
          have HB7 := Lib.hid (show Below w6.heap.size w6 w7 from hw7 ▸ below_alloc (Below.refl _ _) _)
          have HLW7 := Lib.hid (HLW.out w7 HB7.out)
          have HKI := Lib.hid hki
          go_upto_region 13 with (fail)
          change Code.wp _ _ _ _ (w6.alloc (.cells (noughts 32).toArray 33))
          rw [hw7]
          clear hw7 hki HLW
          go_wp2_with (with_reducible refine wpList_ld rfl 109 (.tmp 44) rfl ⟨kc, 0, none⟩ rfl _ HLW7.out ?_)
          have hTl := HH6.out.2.ws
          obtain ⟨tw, htw⟩ : ∃ tw, T.ws = tw := ⟨_, rfl⟩
          rw [htw] at hTl ⊢
          have HTW := Lib.hid htw
          have HTL := Lib.hid hTl
          clear htw hTl HLW7
          go_loopw [46] (fun v46 wr => ∃ i : Nat, i ≤ 8 ∧ v46 = .int .i64 i ∧ Blk wr ki 33 ((run (outw tw) i zeros32).map b8) ∧ But ki w7 wr) (fun v46 _ => 8 - (RowKit.intOf v46).toNat)
          case atStart => exact ⟨0, Nat.zero_le _, rfl, HI7.out, But.refl _ _⟩
          case round =>
            obtain ⟨i, hi, rfl, hb, hbut⟩ := hrel
            have HBL := Lib.hid hb
            have HBU := Lib.hid hbut
            clear hb hbut
            by_cases hlt : i < 8
            · have hix : ∀ W, (Instr.index 109 (.agg (us tw).toArray) (.int .i64 (i : Int))).run Tryd.prog W = .ok (u (tw.getD i 0)) W := fun W => idx_word tw HTL.out i hlt W
              have HST := Lib.hid (show run (outw tw) (i + 1) zeros32 = run (setb (tw.getD i 0) i) 4 (run (outw tw) i zeros32) from rfl)
              obtain ⟨L, hL⟩ : ∃ L, run (outw tw) i zeros32 = L := ⟨_, rfl⟩
              have HLN := Lib.hid (show L.length = 32 from by rw [← hL]; exact run_len (n := 32) (outw_len tw) i zeros32 (by decide))
              rw [hL] at HBL HST
              obtain ⟨x, hx⟩ : ∃ x, tw.getD i 0 = x := ⟨_, rfl⟩
              rw [hx] at HST
              simp only [hx] at hix
              clear hL hx
              go_wp2_with fail
              clear hix
              obtain ⟨wo, rfl⟩ : ∃ wo, wo = wr := ⟨_, rfl⟩
              go_loopw [50] (fun v50 wr => ∃ q : Nat, q ≤ 4 ∧ v50 = .int .i64 q ∧ Blk wr ki 33 ((run (setb x i) q L).map b8) ∧ But ki w7 wr) (fun v50 _ => 4 - (RowKit.intOf v50).toNat)
              case atStart => exact ⟨0, Nat.zero_le _, rfl, HBL.out, HBU.out⟩
              case round =>
                obtain ⟨q, hq, rfl, hb, hbut⟩ := hrel
                clear HBL HBU
                by_cases hq4 : q < 4
                · have HL2 := Lib.hid (run_len (n := 32) (setb_len x i) q L HLN.out)
                  have HST2 := Lib.hid (show run (setb x i) (q + 1) L = setb x i q (run (setb x i) q L) from rfl)
                  obtain ⟨M, hM⟩ : ∃ M, run (setb x i) q L = M := ⟨_, rfl⟩
                  rw [hM] at hb HL2 HST2
                  obtain ⟨a, ha⟩ : ∃ a, 4 * i = a := ⟨_, rfl⟩
                  obtain ⟨p, hp⟩ : ∃ p, a + q = p := ⟨_, rfl⟩
                  obtain ⟨e, he⟩ : ∃ e, e = 24 - 8 * q := ⟨_, rfl⟩
                  have hw1 : IntKind.i64.wrap (4 * (i : Int)) = (a : Int) := by rw [IntWalk.i64_in _ (by omega)]; omega
                  have hw2 : IntKind.i64.wrap ((a : Int) + (q : Int)) = (p : Int) := by rw [IntWalk.i64_in _ (by omega)]; omega
                  have hw3 : (a : Int) + (q : Int) = (p : Int) := by omega
                  have hw4 : (4 : Int) * (i : Int) = (a : Int) := by omega
                  have hw5 : (24 : Int) - 8 * (q : Int) = (e : Int) := by omega
                  have qp0 : (0 : Int) ≤ (p : Int) := by omega
                  have qp1 : (p : Int) < 32 := by omega
                  have he24 : e ≤ 24 := by omega
                  have HSV := Lib.hid (show setb x i q M = M.set p (x / 2 ^ e % 256) from by rw [← hp, ← ha, he]; rfl)
                  have hth := hb.there p 1 (by rw [List.length_map, HL2.out]; omega)
                  have hcell : wr.cell? ⟨ki, p, none⟩ = some (b8 (M.getD p 0)) := by
                    rw [hb.cell, List.getElem?_map, List.getElem?_eq_getElem (by rw [HL2.out]; omega), List.getD_eq_getElem?_getD, List.getElem?_eq_getElem (by rw [HL2.out]; omega)]
                    rfl
                  have hfz := hb.frozen p
                  have HBL := Lib.hid hb
                  have HBU := Lib.hid hbut
                  clear hM ha hp he hb hbut hth
                  clear hw1 hw2
                  go_wp2_with fail
                  go_roundw
                  case rel =>
                    refine ⟨q + 1, by omega, by go_num, ?_, HBU.out.set p _⟩
                    rw [HST2.out, HSV.out, List.map_set]
                    exact HBL.out.set p _
                  all_goals (simp only [RowKit.intOf]; omega)
                · obtain rfl : q = 4 := by omega
                  have HBL := Lib.hid (show Blk wr ki 33 ((run (outw tw) (i + 1) zeros32).map b8) from by rw [HST.out]; exact hb)
                  have HBU := Lib.hid hbut
                  clear hb hbut
                  go_wp2_with fail
                  go_roundw
                  case rel => exact ⟨i + 1, by omega, by go_num, HBL.out, HBU.out⟩
                  all_goals (simp only [RowKit.intOf]; omega)
            · obtain rfl : i = 8 := by omega
              have HID := Lib.hid (show Blk wr ki 33 ((idOf tw).map b8) from HBL.out)
              have hil : (idOf tw).length = 32 := run_len (n := 32) (outw_len tw) 8 zeros32 (by decide)
              obtain ⟨I, hI⟩ : ∃ I, idOf tw = I := ⟨_, rfl⟩
              rw [hI] at HID hil
              have HII := Lib.hid hI
              have HLI := Lib.hid (HID.out.loads 33 Tryd.isAgg33 (fun W => by rw [List.length_map, hil]; exact Tryd.sizeOf33 W))
              have HWF := Lib.hid (show Below w1.heap.size w1 wr from by
                have b3 := HB3.out
                have b4 := (HB.out.mono (show w1.heap.size ≤ ke by have := HKC.out; omega))
                have b5 : Below w1.heap.size wb w6 := HB6.out.below_of (by have := HKC.out; omega) (by have := b3.size; have := b4.size; omega)
                have b6 := HB7.out.mono (show w1.heap.size ≤ w6.heap.size by have := b3.size; have := b4.size; have := b5.size; omega)
                have b7 : Below w1.heap.size w7 wr := HBU.out.below_of (by have := HKI.out; have := b3.size; have := b4.size; have := b5.size; omega) (by have := b3.size; have := b4.size; have := b5.size; have := b6.size; omega)
                exact (((b3.trans b4).trans b5).trans b6).trans b7)
              have HRV2 := Lib.hid (HRV.out.below HWF.out)
              have HTH := Lib.hid (HRV2.out.there 0 (I.map b8).toArray.size (by simp [hil]))
              have HSZ := Lib.hid (show (Tryd.prog.info? 33).map (·.size) = some (I.map b8).toArray.size from by rw [List.size_toArray, List.length_map, hil]; exact size33)
              have HON := Lib.hid (show (I.map b8).toArray.all (·.oneCell') = true from all_oneCell_toArray (fun v hv => by obtain ⟨x, _, rfl⟩ := List.mem_map.1 hv; rfl))
              have HIL := Lib.hid hil
              clear hI hil HBL
              go_wp2_with (first | (with_reducible refine wpList_ld rfl 33 (.tmp 7) rfl ⟨ki, 0, none⟩ rfl _ HLI.out ?_) | (refine wpList_store_mid rfl 33 (.tmp 2) (.tmp 66) rfl w.heap.size 0 (I.map b8).toArray rfl rfl HTH.out HSZ.out HON.out ?_))
              have HF := Lib.hid (show Blk (wr.setCells w.heap.size 0 (I.map b8)) w.heap.size 33 (I.map b8) from by
                have h9 := Blk.setCells (I.map b8) 0 wr _ HRV2.out
                rwa [sets_all _ _ (by rw [List.length_map, HIL.out]; rfl)] at h9)
              have HFB := Lib.hid ((But.setCells (k := w.heap.size) (I.map b8) 0 wr (But.of_below (HB1.out.trans (HWF.out.mono HB1.out.size)))).new (Nat.le_refl _))
              have HVAL := Lib.hid (show I = sumOf rk s from by
                rw [← HII.out, ← HTW.out, ← HTT.out, HNP.out, HEB.out, HPZ.out, HBT.out, ← HHV.out]
                rfl)
              refine bodyPost_ret (v := .agg (I.map b8).toArray) (results_single rfl (.cell w.heap.size 33 (I.map b8).toArray (0, 0) _ rfl HF.out Tryd.underlying33 rfl HSZ.out .nil)) rfl ⟨by rw [HVAL.out], HFB.out⟩
    · have he' : ¬ (r : Int) = 56 := by omega
      have hjp : j + 1 ≤ pz := by
        by_cases e : j = pz
        · subst e
          rw [show hv0 + 1 + j = m2 by omega] at hpz2
          omega
        · omega
      clear he hr hb hn hm2 hr2
      go_upto_region 6 with (fail)
      clear hrem hrem2 hsum ch
      go_wp2_with (first | (at_builtin; refine Kd.R_append kB (W := wr) (w0 := w3) ke rfl (.tmp 27) (.tmp 28) 30 5 _ 1 rfl Tryd.underlying30 info5 rfl (by decide) (by decide) (.slice A5 n c5) (128 :: List.replicate j 0) 0 [b8 0] (fun q => ke ≤ q) (fun _ => False) rfl rfl rfl (fun _ hk => hk.elim) (fun q hq => by have := HB.out.size; have := HKE.out; omega) (HN.out ▸ HR.out) HB.out (by have := HB.out.size; have := HKE.out; omega) (by simp; omega) ?_; intro v6 w6 hr6 hb6 hg6 hat6; have HR6 := Lib.hid hr6; have HB6 := Lib.hid hb6; clear hr6 hb6 hg6 hat6))
      obtain ⟨A6, c6, rfl⟩ := Kd.R_slice HR6.out
      go_roundw
      case rel => exact ⟨j + 1, by omega, by rw [List.replicate_succ']; exact HR6.out, HB6.out⟩
      have hn9 := HN.out
      all_goals (simp only [slen]; simp; omega)
end Go.Proofs.YtfbkkcigkpffiaaDoor.St

namespace Go.Proofs.YtfbkkcigkpffiaaDoor.St
open Go Go.Lib Go.RowKit Go.ChangeMaps Go.Proofs.YtfbkkcigkpffiaaDoorW.PrintWords Go.Proofs.YtfbkkcigkpffiaaDoorW.PrintLast Go.Proofs.YtfbkkcigkpffiaaDoorW.PrintMore Go.Proofs.YtfbkkcigkpffiaaDoor.PStoreMany
set_option linter.unusedVariables false
set_option linter.unusedSimpArgs false
abbrev By := List UInt8
abbrev cl (l : By) : List Value := l.map (fun b => Value.int .u8 (b.toNat : Int))
/-- An id as a value. -/
abbrev vId (d : By) : Value := .agg (cl d).toArray
def Byte (x : Int) : Prop := 0 ≤ x ∧ x ≤ 255
theorem setb_bytes (x : Int) (i q : Nat) (L : List Int) (h : ∀ y ∈ L, Byte y) : ∀ y ∈ setb x i q L, Byte y := fun y hy => by
  rcases List.mem_or_eq_of_mem_set hy with h1 | rfl
  · exact h y h1
  · unfold Byte; omega
theorem idOf_bytes (tw : List Int) : ∀ y ∈ idOf tw, Byte y :=
  run_keep (fun L => ∀ y ∈ L, Byte y) (outw tw) (fun i L h => run_keep (fun L => ∀ y ∈ L, Byte y) (setb (tw.getD i 0) i) (fun q L h => setb_bytes _ i q L h) 4 L h) 8 zeros32 (fun y hy => by
    obtain ⟨_, rfl⟩ := List.mem_replicate.1 hy
    exact ⟨by decide, by decide⟩)
theorem idOf_len (tw : List Int) : (idOf tw).length = 32 := run_len (n := 32) (outw_len tw) 8 zeros32 (by decide)
def toBy (l : List Int) : By := l.map (fun x => UInt8.ofNat x.toNat)
theorem toBy_cl {l : List Int} (h : ∀ y ∈ l, Byte y) : cl (toBy l) = l.map b8 := by
  unfold toBy cl
  rw [List.map_map]
  refine List.map_congr_left (fun x hx => ?_)
  have h1 := h x hx
  unfold Byte at h1
  show Value.int .u8 ((UInt8.ofNat x.toNat).toNat : Int) = b8 x
  rw [UInt8.toNat_ofNat']
  congr 1
  omega
/-- What the tables make of bytes. -/
noncomputable def dig (bg : List Int) (rk : Nat → Int) (b : List Int) : By := toBy (sumOf rk (written rk { hs0 bg with al := 0 + b.length } b))
theorem dig_len (bg : List Int) (rk : Nat → Int) (b : List Int) : (dig bg rk b).length = 32 := by
  unfold dig toBy sumOf
  rw [List.length_map, idOf_len]
theorem dig_cl (bg : List Int) (rk : Nat → Int) (b : List Int) : cl (dig bg rk b) = (sumOf rk (written rk { hs0 bg with al := 0 + b.length } b)).map b8 := toBy_cl (idOf_bytes _)
theorem Src.of_C {k : Nat} {w : World} {A : Option Addr} {b : List Int} (h : Kd.C kB w A b.length b) (hk : w.heap.size ≤ k) (hl : b.length ≤ 140737488355328) : Src k w A b := ⟨hl, fun hp => by
  obtain ⟨ad, ha, hcell⟩ := h.2.2 hp
  have hc : ∀ j x, b[j]? = some x → w.cell? (ad.add j) = some (b8 x) := fun j x hj => by
    obtain ⟨cs, hl1, hk, hc⟩ := hcell j x hj
    have hk' : cs = [Value.int .u8 x] := hk
    subst hk'
    have := hc 0 _ rfl
    rwa [show (Kd.int .u8).sz = 1 from rfl, Nat.mul_one, Nat.add_zero] at this
  refine ⟨ad, ha, ?_, hc⟩
  have h1 := World.block_lt_of_cell? w _ (hc 0 _ (List.getElem?_eq_getElem hp))
  rw [add_blk] at h1
  omega⟩
theorem written_al {rk : Nat → Int} {s : Hs} {b : List Int} {t : Hs} (h : Ends rk s b t) : t.al = s.al := by
  obtain ⟨i, hi, _⟩ := h
  have h9 := run_keep (fun p : Hs × List Int => p.1.al = s.al) (fun _ => wstep rk) (fun _ p hp => by
    unfold wstep
    simp only
    split <;> exact hp) i (s, b) rfl
  rw [hi] at h9
  exact h9
theorem written_al' (rk : Nat → Int) (s : Hs) (b : List Int) : (written rk s b).al = s.al := by
  by_cases h : ∃ t, Ends rk s b t
  · obtain ⟨t, ht⟩ := h
    rw [ht.eq]; exact written_al ht
  · unfold written; rw [dif_neg h]
set_option maxRecDepth 100000 in
set_option maxHeartbeats 4000000 in
theorem sum_walk (bg : List Int) (rk : Nat → Int) (b : List Int) (A : Option Addr) (c : Nat) (w : World) (hT : Tabs bg rk w) (hC : Kd.C kB w A b.length b) (hc : b.length ≤ c) (hl : b.length ≤ 140737488355328) :
    Calls Tryd.prog 29 #[.slice A b.length c] w fun e w' => e = .returned (vId (dig bg rk b)) ∧ Below w.heap.size w w' := by
  obtain ⟨w1, hw1⟩ : ∃ w1, w.alloc (.cells (noughts 32).toArray 33) = w1 := ⟨_, rfl⟩
  have HB1 := Lib.hid (show Below w.heap.size w w1 from hw1 ▸ below_alloc (Below.refl _ _) _)
  have HRV := Lib.hid (show Blk w1 w.heap.size 33 (noughts 32) from hw1 ▸ Blk.new w 33 (noughts 32))
  have HW1 := Lib.hid hw1
  have HT := Lib.hid hT
  have HN1 := Lib.hid (new_walk bg rk w1 (hT.below HB1.out))
  have HC := Lib.hid hC
  have HCC := Lib.hid hc
  have HDL := Lib.hid (dig_cl bg rk b)
  obtain ⟨N, hN⟩ : ∃ N, b.length = N := ⟨_, rfl⟩
  have HN := Lib.hid hN
  rw [hN] at hl ⊢
  clear hw1 hT hC hc hN
  go_enter Tryd.func29, Tryd.ntmps29
  go_upto_region 1 with (fail)
  change Code.wp _ _ _ _ (w.alloc (.cells (noughts 32).toArray 33))
  rw [HW1.out]
  go_upto_region 2 with (go_at_call 42; refine HN1.out.mono ?_; rintro e w2 ⟨k, rfl, hh, hk, hb⟩; have HH2 := Lib.hid hh; have HK := Lib.hid hk; have HB2 := Lib.hid hb; clear hh hk hb)
  have HT2 := Lib.hid ((HT.out.below HB1.out).below HB2.out)
  have hk1 : k ≠ 1 := by
    have h1 : 1 < w.heap.size := World.block_lt_of_cell? w _ (HT.out.r 0 (by decide))
    have := HK.out
    have := HB1.out.size
    omega
  have hS : Src k w2 A b := (Src.of_C (k := k) (Kd.C_below HC.out HB1.out) HK.out (by rw [HN.out]; exact hl)).but (But.of_below HB2.out)
  have hwr := write_walk rk k (hs0 bg) b A c w2 HH2.out HT2.out.r hk1 (show (0 : Nat) < 64 from by decide) hS HCC.out (by rw [HN.out]; show 0 + N ≤ _; omega)
  have hal := written_al' rk { hs0 bg with al := (hs0 bg).al + b.length } b
  obtain ⟨T, hTw⟩ : ∃ T, written rk { hs0 bg with al := (hs0 bg).al + b.length } b = T := ⟨_, rfl⟩
  rw [hTw] at hwr hal
  rw [HN.out] at hwr
  have HWR := Lib.hid hwr
  have HAL := Lib.hid (show T.al ≤ 1152921504606846976 from by rw [hal, HN.out]; show 0 + N ≤ _; omega)
  have HTW := Lib.hid hTw
  clear hk1 hS hwr hal hTw
  go_upto_region 3 with (go_at_call 43; refine HWR.out.mono ?_; rintro e w3 ⟨rfl, hh, hv, hb⟩; have HH3 := Lib.hid hh; have HV3 := Lib.hid hv; have HB3 := Lib.hid hb; clear hh hv hb)
  have HB13 := Lib.hid (show Below w1.heap.size w1 w3 from HB2.out.trans (HB3.out.below_of HK.out HB2.out.size))
  have HSU := Lib.hid (sumh_walk bg rk k T w3 ((HT.out.below HB1.out).below HB13.out) HH3.out HV3.out HAL.out)
  have HDG := Lib.hid (show ((sumOf rk T).map b8) = cl (dig bg rk b) from by rw [HDL.out, ← HTW.out]; rfl)
  obtain ⟨D, hD⟩ : ∃ D, dig bg rk b = D := ⟨_, rfl⟩
  have HDD := Lib.hid hD
  rw [hD] at HDG
  have hlen : (cl D).length = 32 := by rw [List.length_map, ← hD]; exact dig_len bg rk b
  have hSZ : (Tryd.prog.info? 33).map (·.size) = some (cl D).toArray.size := by rw [List.size_toArray, hlen]; exact size33
  have hON : (cl D).toArray.all (·.oneCell') = true := all_oneCell_toArray (fun v hv => by obtain ⟨x, _, rfl⟩ := List.mem_map.1 hv; rfl)
  have HSZ := Lib.hid hSZ
  have HON := Lib.hid hON
  have HLEN := Lib.hid hlen
  rw [HDG.out] at HSU
  clear hD hlen hSZ hON
  go_wp2_with (first | (go_at_call 44; refine HSU.out.mono ?_; rintro e w4 ⟨rfl, hb⟩; have HB4 := Lib.hid hb; have HRV4 := Lib.hid ((HRV.out.below HB13.out).below hb); have HTH := Lib.hid (HRV4.out.there 0 (cl D).toArray.size (by rw [List.size_toArray, HLEN.out]; simp)); clear hb) | (refine wpList_store_mid rfl 33 (.tmp 2) (.tmp 9) rfl w.heap.size 0 (cl D).toArray rfl rfl HTH.out HSZ.out HON.out ?_))
  have HF := Lib.hid (show Blk (w4.setCells w.heap.size 0 (cl D)) w.heap.size 33 (cl D) from by
    have h9 := Blk.setCells (cl D) 0 w4 _ HRV4.out
    rwa [sets_all _ _ (by rw [HLEN.out]; rfl)] at h9)
  have HW4 := Lib.hid (show Below w.heap.size w w4 from HB1.out.trans ((HB13.out.trans (HB4.out.mono HB13.out.size)).mono HB1.out.size))
  have HFB := Lib.hid ((But.setCells (k := w.heap.size) (cl D) 0 w4 (But.of_below HW4.out)).new (Nat.le_refl _))
  exact bodyPost_ret (v := .agg (cl D).toArray) (results_single rfl (.cell w.heap.size 33 (cl D).toArray (0, 0) _ rfl HF.out Tryd.underlying33 rfl HSZ.out .nil)) rfl ⟨by rw [HDD.out], HFB.out⟩
/-- A result of 32 bytes that is stored in a variable of its own. -/
theorem ret_id {w w4 : World} {r : Nat} (D : By) (hD : D.length = 32) (hr : Blk w4 r 33 (noughts 32)) (hw : Below w.heap.size w w4) (hk : w.heap.size ≤ r) :
    Blk (w4.setCells r 0 (cl D)) r 33 (cl D) ∧ Below w.heap.size w (w4.setCells r 0 (cl D)) := by
  refine ⟨?_, (But.setCells (k := r) (cl D) 0 w4 (But.of_below hw)).new hk⟩
  have h9 := Blk.setCells (cl D) 0 w4 _ hr
  rwa [sets_all _ _ (by rw [List.length_map, hD]; rfl)] at h9
theorem size33' {D : By} (hD : D.length = 32) : (Tryd.prog.info? 33).map (·.size) = some (cl D).toArray.size := by rw [List.size_toArray, List.length_map, hD]; exact size33
theorem one33 (D : By) : (cl D).toArray.all (·.oneCell') = true := all_oneCell_toArray (fun v hv => by obtain ⟨x, _, rfl⟩ := List.mem_map.1 hv; rfl)
set_option maxRecDepth 100000 in
set_option maxHeartbeats 4000000 in
theorem id_walk (bg : List Int) (rk : Nat → Int) (b : List Int) (A : Option Addr) (c : Nat) (w : World) (hT : Tabs bg rk w) (hC : Kd.C kB w A b.length b) (hc : b.length ≤ c) (hl : b.length ≤ 140737488355328) :
    Calls Tryd.prog 13 #[.slice A b.length c] w fun e w' => e = .returned (vId (dig bg rk b)) ∧ Below w.heap.size w w' := by
  obtain ⟨w1, hw1⟩ : ∃ w1, w.alloc (.cells (noughts 32).toArray 33) = w1 := ⟨_, rfl⟩
  have HB1 := Lib.hid (show Below w.heap.size w w1 from hw1 ▸ below_alloc (Below.refl _ _) _)
  have HRV := Lib.hid (show Blk w1 w.heap.size 33 (noughts 32) from hw1 ▸ Blk.new w 33 (noughts 32))
  have HW1 := Lib.hid hw1
  have hsu := sum_walk bg rk b A c w1 (hT.below HB1.out) (Kd.C_below hC HB1.out) hc hl
  obtain ⟨N, hN⟩ : ∃ N, b.length = N := ⟨_, rfl⟩
  obtain ⟨D, hD⟩ : ∃ D, dig bg rk b = D := ⟨_, rfl⟩
  have HDL := Lib.hid (show D.length = 32 from hD ▸ dig_len bg rk b)
  rw [hN, hD] at hsu
  rw [hN, hD]
  have HSU := Lib.hid hsu
  have HSZ := Lib.hid (size33' HDL.out)
  have HON := Lib.hid (one33 D)
  clear hw1 hT hC hc hN hD hsu
  go_enter Tryd.func13, Tryd.ntmps13
  go_upto_region 1 with (fail)
  change Code.wp _ _ _ _ (w.alloc (.cells (noughts 32).toArray 33))
  rw [HW1.out]
  go_wp2_with (first | (go_at_call 29; refine HSU.out.mono ?_; rintro e w4 ⟨rfl, hb⟩; have HB4 := Lib.hid hb; have HRV4 := Lib.hid (HRV.out.below hb); have HTH := Lib.hid (HRV4.out.there 0 (cl D).toArray.size (by rw [List.size_toArray, List.length_map, HDL.out]; simp)); clear hb) | (refine wpList_store_mid rfl 33 (.tmp 2) (.tmp 4) rfl w.heap.size 0 (cl D).toArray rfl rfl HTH.out HSZ.out HON.out ?_))
  have HF := Lib.hid (ret_id D HDL.out HRV4.out (HB1.out.trans (HB4.out.mono HB1.out.size)) (Nat.le_refl _))
  exact bodyPost_ret (v := .agg (cl D).toArray) (results_single rfl (.cell w.heap.size 33 (cl D).toArray (0, 0) _ rfl HF.out.1 Tryd.underlying33 rfl HSZ.out .nil)) rfl ⟨rfl, HF.out.2⟩
end Go.Proofs.YtfbkkcigkpffiaaDoor.St

namespace Go.Proofs.YtfbkkcigkpffiaaDoor.St
open Go Go.Lib Go.RowKit Go.ChangeMaps Go.Proofs.YtfbkkcigkpffiaaDoorW.PrintWords Go.Proofs.YtfbkkcigkpffiaaDoorW.PrintLast Go.Proofs.YtfbkkcigkpffiaaDoorW.PrintMore Go.Proofs.YtfbkkcigkpffiaaDoor.PStoreMany
open Go.MapKept (heap_set)
set_option linter.unusedVariables false
set_option linter.unusedSimpArgs false
set_option maxRecDepth 200000
abbrev KV := List (By × Value)
def kget : KV → By → Option Value
  | [], _ => none
  | (a, v) :: r, k => if a = k then some v else kget r k
def kput : KV → By → Value → KV
  | [], k, v => [(k, v)]
  | (a, x) :: r, k, v => if a = k then (a, v) :: r else (a, x) :: kput r k v
def kdel : KV → By → KV
  | [], _ => []
  | (a, x) :: r, k => if a = k then r else (a, x) :: kdel r k
def F (e : MapEntry) : Value × Value := (e.key, e.val)
def G (x : By × Value) : Value × Value := (vId x.1, x.2)
/-- Block b is a map of just these entries, in this order. -/
def IMap (w : World) (b : Nat) (kv : KV) : Prop :=
  ∃ es clock, w.heap[b]? = some (.map es clock) ∧ es.toList.map F = kv.map G ∧ (∀ e ∈ es.toList, e.born < clock) ∧ (es.toList.map (·.born)).Nodup ∧ ∀ x ∈ kv, x.1.length = 32
theorem equal33 {a b : By} (ha : a.length = 32) (hb : b.length = 32) (w : World) : (Op.equal 33 (vId a) (vId b)).run Tryd.prog w = .ok (decide (b = a)) w := by
  have h := run_equalIn_bytes (P := Tryd.prog) w 9998 33 5 32 Tryd.underlying33 Tryd.underlying5 Tryd.sizeOf5 a b ha hb
  refine h.trans ?_
  congr 1
  rw [Bool.eq_iff_iff, beq_iff_eq, decide_eq_true_eq]
  exact eq_comm
theorem check_n {d : By} (hd : d.length = 32) (em : Bool) (n : Nat) (w : World) : (Instr.checkKey em (n + 2) 33 (vId d)).run Tryd.prog w = .ok () w := by
  rw [Instr.checkKey]
  simp only [Sem.run_bind, run_underlying Tryd.underlying33, Result.andThen_ok, Tryd.sizeOf5, Std.Legacy.Range.forIn_eq_forIn_range', Std.Legacy.Range.size, Nat.sub_zero, Nat.add_sub_cancel, Nat.div_one]
  have hl : ∀ i ∈ List.range' 0 32 1, i < 32 := fun i hi => (List.mem_range'_1.1 hi).2
  generalize List.range' 0 32 1 = l at hl ⊢
  induction l with
  | nil => simp
  | cons i l ih =>
    have hi : i < 32 := hl i (List.mem_cons_self ..)
    have px : (part 5 (cl d).toArray (i * 1)).run Tryd.prog w = .ok (b8 ((d.getD i 0).toNat : Int)) w := by
      simp [part, isAgg, run_underlying Tryd.underlying5, List.getD, List.getElem?_eq_getElem (show i < d.length by omega)]
    have pc : (Instr.checkKey em (n + 1) 5 (b8 ((d.getD i 0).toNat : Int))).run Tryd.prog w = .ok () w := by
      simp [Instr.checkKey, run_underlying Tryd.underlying5]
    have hih := ih fun j hj => hl j (List.mem_cons_of_mem _ hj)
    simp only [List.forIn_cons, Sem.run_bind, Tryd.sizeOf5, px, pc, Result.andThen_ok, Sem.run_pure] at hih ⊢
    exact hih
theorem check33 {d : By} (hd : d.length = 32) (em : Bool) (w : World) : (Instr.checkKey em 10000 33 (vId d)).run Tryd.prog w = .ok () w := check_n hd em 9998 w
theorem find_ix (w : World) {k : By} (hk : k.length = 32) : ∀ (l : List MapEntry) (kv : KV), l.map F = kv.map G → (∀ x ∈ kv, x.1.length = 32) →
    (kget kv k = none ∧ (∀ v, kput kv k v = kv ++ [(k, v)]) ∧ kdel kv k = kv ∧ ∀ i, (Instr.findAsking 33 (vId k) l i).run Tryd.prog w = .ok none w) ∨
    ∃ j v e, kget kv k = some v ∧ l[j]? = some e ∧ e.val = v ∧ e.key = vId k ∧ (∀ i, (Instr.findAsking 33 (vId k) l i).run Tryd.prog w = .ok (some (i + j, v)) w) ∧
      (∀ v', (l.modify j (fun e => { e with key := vId k, val := v' })).map F = (kput kv k v').map G) ∧ (l.eraseIdx j).map F = (kdel kv k).map G
  | [], [], _, _ => .inl ⟨rfl, fun _ => rfl, rfl, fun _ => rfl⟩
  | [], _ :: _, h, _ => by simp at h
  | _ :: _, [], h, _ => by simp at h
  | e :: l, (a, x) :: kv, h, hl32 => by
    simp only [List.map_cons, List.cons.injEq] at h
    obtain ⟨he, hl⟩ := h
    have hkey : e.key = vId a := congrArg Prod.fst he
    have hx : e.val = x := congrArg Prod.snd he
    have ha32 : a.length = 32 := hl32 (a, x) (by simp)
    have heq := equal33 hk ha32 w
    by_cases ha : a = k
    · subst ha
      right
      refine ⟨0, x, e, by simp [kget], rfl, hx, hkey, fun i => ?_, fun v' => ?_, ?_⟩
      · rw [Instr.findAsking, hkey]
        simp only [Sem.run_bind, heq, Result.andThen_ok, decide_true, if_true, Sem.run_pure, hx, Nat.add_zero]
      · simp [kput, F, G]; exact hl
      · simp [kdel]; exact hl
    · have hne : decide (a = k) = false := by simpa using ha
      have step : ∀ i, (Instr.findAsking 33 (vId k) (e :: l) i).run Tryd.prog w = (Instr.findAsking 33 (vId k) l (i + 1)).run Tryd.prog w := fun i => by
        rw [Instr.findAsking, hkey]
        simp only [Sem.run_bind, heq, Result.andThen_ok, hne, Bool.false_eq_true, if_false]
      rcases find_ix w hk l kv hl (fun y hy => hl32 y (List.mem_cons_of_mem _ hy)) with ⟨h1, h2, h3, h4⟩ | ⟨j, v, e', h1, h2, h3, h4, h5, h6, h7⟩
      · left
        refine ⟨by simp [kget, ha, h1], fun v => by simp [kput, ha, h2], by simp [kdel, ha, h3], fun i => ?_⟩
        rw [step, h4]
      · right
        refine ⟨j + 1, v, e', by simp [kget, ha, h1], by simpa using h2, h3, h4, fun i => ?_, fun v' => ?_, ?_⟩
        · rw [step, h5]; congr 3; omega
        · simp only [List.modify_succ_cons, List.map_cons, kput, ha, if_false]; rw [h6, he]
        · simp only [List.eraseIdx_cons_succ, List.map_cons, kdel, ha, if_false]; rw [h7, he]
theorem findKey33 (w : World) (x : Value) (es : List MapEntry) : (Instr.findKey 33 x es).run Tryd.prog w = (Instr.findAsking 33 x es).run Tryd.prog w :=
  run_findKey_eq w (by rw [Tryd.underlying33]) x es
theorem modify_same {α β : Type} (g : α → β) (j : Nat) (f : α → α) (h : ∀ e, g (f e) = g e) (l : List α) : (l.modify j f).map g = l.map g := by
  induction l generalizing j with
  | nil => simp
  | cons a r ih =>
    cases j with
    | zero => simp [h]
    | succ j => simp [ih j]
section
variable {w : World} {b : Nat} {kv : KV}
theorem IMap.lt (h : IMap w b kv) : b < w.heap.size := by
  obtain ⟨es, c, hb, _⟩ := h
  exact (Array.getElem?_eq_some_iff.1 hb).1
theorem IMap.of_block {w' : World} (h : IMap w b kv) (e : w'.heap[b]? = w.heap[b]?) : IMap w' b kv := by
  obtain ⟨es, c, hb, r⟩ := h
  exact ⟨es, c, e.trans hb, r⟩
theorem IMap.below {w' : World} (h : IMap w b kv) (hb : Below w.heap.size w w') : IMap w' b kv := h.of_block (hb.block b h.lt)
theorem IMap.made (w : World) : IMap (w.alloc (.map #[] 0)) w.heap.size [] := ⟨#[], 0, (MapKept.heap_alloc w _).1, rfl, by simp, by simp, fun x hx => by cases hx⟩
theorem IMap.lookup (h : IMap w b kv) {k : By} (hk : k.length = 32) (c : Bool) :
    (Instr.lookup 70 (.map (some b)) (vId k) c).run Tryd.prog w = .ok (if c then .tuple #[(kget kv k).getD (.slice none 0 0), .bool (kget kv k).isSome] else (kget kv k).getD (.slice none 0 0)) w := by
  obtain ⟨es, clock, hb, hm, _, _, h32⟩ := h
  have h1 := check33 hk es.isEmpty w
  have hz := Tryd.zeroValue30 w
  rcases find_ix w hk es.toList kv hm h32 with ⟨g1, _, _, g4⟩ | ⟨j, v, e, g1, _, _, _, g5, _, _⟩
  · have h2 := (findKey33 w (vId k) es.toList).trans (g4 0)
    simp [Instr.lookup, run_underlying Tryd.underlying70, MapKept.run_getObj_map (P := Tryd.prog) hb, Result.andThen, h1, h2, hz, g1]
  · have h2 := (findKey33 w (vId k) es.toList).trans (g5 0)
    simp [Instr.lookup, run_underlying Tryd.underlying70, MapKept.run_getObj_map (P := Tryd.prog) hb, Result.andThen, h1, h2, g1]
theorem same_bits (d : By) (n : Nat) : Instr.sameBits (n + 1) (vId d) (vId d) = true := by
  simp only [Instr.sameBits]
  simp only [beq_self_eq_true, Bool.true_and, List.all_eq_true]
  intro x hx
  obtain ⟨i, hi, he⟩ := List.mem_iff_getElem.1 hx
  rw [List.getElem_zip] at he
  subst he
  simp [Instr.sameBits]
theorem IMap.update (h : IMap w b kv) {k : By} (hk : k.length = 32) (v : Value) :
    ∃ o, (Instr.mapUpdate 70 (.map (some b)) (vId k) v).run Tryd.prog w = .ok () (setBlock w b o) ∧ IMap (setBlock w b o) b (kput kv k v) := by
  have hlt := h.lt
  obtain ⟨es, clock, hb, hm, hborn, hnd, h32⟩ := h
  have h1 := check33 hk false w
  rcases find_ix w hk es.toList kv hm h32 with ⟨g1, g2, _, g4⟩ | ⟨j, v0, e, g1, ge, _, gk, g5, g6, _⟩
  · have h2 := (findKey33 w (vId k) es.toList).trans (g4 0)
    refine ⟨.map (es.push { key := vId k, val := v, born := clock }) (clock + 1), ?_, _, _, (heap_set hb).1, ?_, ?_, ?_, ?_⟩
    · simp [Instr.mapUpdate, run_underlying Tryd.underlying70, MapKept.run_getObj_map (P := Tryd.prog) hb, Result.andThen, h1, h2, MapKept.run_setObj_map (P := Tryd.prog) _ hb, setBlock]
    · rw [g2]; simp [hm, F, G]
    · intro e he
      simp at he
      rcases he with he | rfl
      · have := hborn e (by simpa using he); omega
      · simp
    · simp only [Array.toList_push, List.map_append, List.map_cons, List.map_nil]
      rw [List.nodup_append]
      refine ⟨hnd, by simp, ?_⟩
      intro x hx y hy
      simp at hy
      subst hy
      obtain ⟨e, he, rfl⟩ := List.mem_map.1 hx
      have := hborn e he
      omega
    · rw [g2]
      intro x hx
      rcases List.mem_append.1 hx with hx | hx
      · exact h32 x hx
      · rw [List.mem_singleton.1 hx]; exact hk
  · have h2 := (findKey33 w (vId k) es.toList).trans (g5 0)
    have hj : es[j]? = some e := by rw [← Array.getElem?_toList]; exact ge
    have hstay : (Instr.keyThatStays (vId k) (vId k)).run Tryd.prog w = .ok (vId k) w := by
      unfold Instr.keyThatStays
      rw [show (10000 : Nat) = 9999 + 1 from rfl, same_bits]
      rfl
    refine ⟨.map (es.modify j fun e => { e with key := vId k, val := v }) clock, ?_, _, _, (heap_set hb).1, ?_, ?_, ?_, ?_⟩
    · simp only [Instr.mapUpdate, Sem.run_bind, run_underlying Tryd.underlying70, MapKept.run_getObj_map (P := Tryd.prog) hb, Result.andThen, h1, h2, Nat.zero_add, hj, Option.map_some, Option.getD_some, gk, hstay]
      simp [MapKept.run_setObj_map (P := Tryd.prog) _ hb, setBlock]
    · rw [Array.toList_modify]; exact g6 v
    · intro x hx
      rw [Array.toList_modify] at hx
      have : x.born ∈ (es.toList.modify j fun e => { e with key := vId k, val := v }).map (·.born) := List.mem_map_of_mem hx
      rw [modify_same MapEntry.born j (fun e => { e with key := vId k, val := v }) (fun _ => rfl)] at this
      obtain ⟨y, hy, e1⟩ := List.mem_map.1 this
      rw [← e1]; exact hborn y hy
    · rw [Array.toList_modify, modify_same MapEntry.born j (fun e => { e with key := vId k, val := v }) (fun _ => rfl)]; exact hnd
    · intro x hx
      have hmem : ∀ (kv : KV) (x : By × Value), (∀ y ∈ kv, y.1.length = 32) → x ∈ kput kv k v → x.1.length = 32 := by
        intro kv
        induction kv with
        | nil => intro x _ hx; simp [kput] at hx; rw [hx]; exact hk
        | cons y r ih =>
          intro x h hx
          unfold kput at hx
          split at hx
          · rename_i hyk
            rcases List.mem_cons.1 hx with rfl | hx
            · exact h y (by simp)
            · exact h x (List.mem_cons_of_mem _ hx)
          · rcases List.mem_cons.1 hx with rfl | hx
            · exact h y (by simp)
            · exact ih x (fun z hz => h z (List.mem_cons_of_mem _ hz)) hx
      exact hmem kv x h32 hx
theorem wpList_put {ops : Array Oper} {rest : List Oper} {o : Oper} {a : Act} {Q : Exit → Act → World → Prop} (h : IMap w b kv)
    (hg : o.guard = none) (m x v : Operand) (hop : o.op = Op.mapUpdate 70 m x v)
    (hm : a.eval m = .map (some b)) (k : By) (hk : k.length = 32) (val : Value) (hx : a.eval x = vId k) (hv : a.eval v = val)
    (hn : ∀ w', IMap w' b (kput kv k val) → w.grownBy w' (some b) → wpList Tryd.prog ops Q rest (a.put o.dst undef) w') : wpList Tryd.prog ops Q (o :: rest) a w := by
  refine wpList_plain hg fun K' hK' => ?_
  obtain ⟨ob, hrun, r1⟩ := h.update hk val
  obtain ⟨es, clock, hb, _⟩ := h
  unfold Oper.wp
  simp [execOp, hop, hm, hx, hv, hrun, Result.andThen]
  exact hK' _ _ (hn _ r1 ⟨rfl, rfl, rfl, by simp [setBlock], fun i _ hi => (heap_set hb).2 i (fun e => hi (by rw [e]))⟩)
end
end Go.Proofs.YtfbkkcigkpffiaaDoor.St
