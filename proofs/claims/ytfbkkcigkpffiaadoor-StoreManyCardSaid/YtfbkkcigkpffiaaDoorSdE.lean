/- The walk of a hash's Sum. -/
import Derived.Test.YtfbkkcigkpffiaaDoorSdD
import Derived.Deep.MidRow
namespace Go.Proofs.YtfbkkcigkpffiaaDoor.St
open Go Go.Lib Go.RowKit Go.ChangeMaps Go.Proofs.YtfbkkcigkpffiaaDoorW.PrintWords Go.Proofs.YtfbkkcigkpffiaaDoorW.PrintLast Go.Proofs.YtfbkkcigkpffiaaDoorW.PrintMore Go.Proofs.YtfbkkcigkpffiaaDoor.PStoreMany
set_option linter.unusedVariables false
set_option linter.unusedSimpArgs false
/-- The bytes behind a message: a first one, noughts, how many bits. -/
def padz (hv : Nat) : Nat := (119 - hv) % 64
theorem size112 : (Tryd.prog.info? 112).map (·.size) = some 74 := by kernel_rfl
abbrev noughts (n : Nat) : List Value := List.replicate n (b8 0)
theorem zero112 : Tryd.zeroCells112.toList.length = 74 := by kernel_rfl
theorem mod_same (x d : Nat) (h1 : x % 64 = 56) (h2 : (x + d) % 64 = 56) (hd : d < 64) : d = 0 := by
  rw [Nat.add_mod, h1] at h2
  rw [Nat.mod_eq_of_lt hd] at h2
  by_cases h : 56 + d < 64
  · rw [Nat.mod_eq_of_lt h] at h2; omega
  · rw [Nat.mod_eq_sub_mod (by omega), Nat.mod_eq_of_lt (by omega)] at h2; omega
abbrev kB := Kd.int .u8
/-- A row of bytes that is a block's beginning. -/
theorem R_blk {w : World} {g n cap : Nat} {cs : List Value} {xs : List Int} (h : Blk w g 5 cs) (hl : cs.length = cap) (hn : xs.length = n) (hc : n ≤ cap) (hm : cap ≤ 9223372036854775807) (ht : cs.take n = xs.map b8) :
    kB.R 5 w g (fun q => g ≤ q) (.slice (some ⟨g, 0, none⟩) n cap) xs := by
  subst hn
  refine Kd.R_of_own ⟨by simp [encs], .inr ⟨g, cap, cs.toArray, rfl, Nat.le_refl _, h, hc, hm, by simp [hl], ?_⟩⟩ (fun q hq => ?_)
  · rw [Nat.mul_one, List.toList_toArray, ht]
    rfl
  · have : g = q := by simpa [Value.ownBlock] using hq
    omega
def bitsN (bt t : Nat) : List Int := (List.range t).map (fun j => ((bt / 2 ^ (8 * (7 - j)) % 256 : Nat) : Int))
def endB (pz bt : Nat) : List Int := 128 :: (List.replicate pz 0 ++ bitsN bt 8)
abbrev zeros32 : List Int := List.replicate 32 0
/-- A word's four bytes laid down. -/
def setb (x : Int) (i q : Nat) (L : List Int) : List Int := L.set (4 * i + q) (x / 2 ^ (24 - 8 * q) % 256)
theorem setb_len (x : Int) (i q : Nat) (L : List Int) : (setb x i q L).length = L.length := by simp [setb]
def outw (tw : List Int) (i : Nat) (L : List Int) : List Int := run (setb (tw.getD i 0) i) 4 L
theorem outw_len (tw : List Int) (i : Nat) (L : List Int) : (outw tw i L).length = L.length := run_len (setb_len _ i) 4 L rfl
theorem idx_word (tw : List Int) (hl : tw.length = 8) (i : Nat) (hi : i < 8) (W : World) : (Instr.index 109 (.agg (us tw).toArray) (.int .i64 (i : Int))).run Tryd.prog W = .ok (u (tw.getD i 0)) W := by
  unfold Instr.index
  simp only [asIntOf, Sem.run_bind, Sem.run_pure, Result.andThen_ok, run_underlying Tryd.underlying109]
  rw [if_pos (by omega)]
  simp only [Sem.run_bind, Tryd.sizeOf108, Result.andThen_ok, Int.toNat_natCast, Nat.mul_one]
  unfold Go.part
  rw [Sem.run_bind, Tryd.isAgg108]
  simp only [Result.andThen_ok]
  rw [List.getD_eq_getElem?_getD, List.getElem?_eq_getElem (by omega)]
  simp [us, hl, hi]
/-- The words as bytes. -/
def idOf (tw : List Int) : List Int := run (outw tw) 8 zeros32
theorem size33 : (Tryd.prog.info? 33).map (·.size) = some 32 := by kernel_rfl
/-- What Sum tells of a hash. -/
noncomputable def sumOf (rk : Nat → Int) (s : Hs) : List Int := idOf (written rk { s with al := s.al + (padz s.hv + 9) } (endB (padz s.hv) (8 * s.al))).ws
set_option maxRecDepth 100000 in
set_option maxHeartbeats 4000000 in
theorem sumh_walk (bg : List Int) (rk : Nat → Int) (k : Nat) (s : Hs) (w : World) (hT : Tabs bg rk w) (h : HashAt w k s) (hv : s.hv < 64) (hal : s.al ≤ 1152921504606846976) :
    Calls Tryd.prog 44 #[.pointer (some ⟨k, 0, none⟩)] w fun e w' => e = .returned (.agg ((sumOf rk s).map b8).toArray) ∧ Below w.heap.size w w' := by
  have HH := Lib.hid h
  have HT := Lib.hid hT
  obtain ⟨w1, hw1⟩ : ∃ w1, w.alloc (.cells (noughts 32).toArray 33) = w1 := ⟨_, rfl⟩
  have HB1 := Lib.hid (show Below w.heap.size w w1 from hw1 ▸ below_alloc (Below.refl _ _) _)
  have HRV := Lib.hid (show Blk w1 w.heap.size 33 (noughts 32) from hw1 ▸ Blk.new w 33 (noughts 32))
  have HW1 := Lib.hid hw1
  have hlen := Hs.len h.2
  have HLD := Lib.hid ((h.1.below HB1.out).loads 112 Tryd.isAgg112 (fun W => by rw [hlen]; exact Tryd.sizeOf112 W))
  obtain ⟨w2, hw2⟩ : ∃ w2, w1.alloc (.cells Tryd.zeroCells112 112) = w2 := ⟨_, rfl⟩
  have HW2 := Lib.hid hw2
  have HZ := Lib.hid (show Blk w2 w1.heap.size 112 Tryd.zeroCells112.toList from by
    have h9 := Blk.new w1 112 Tryd.zeroCells112.toList
    rw [Array.toArray_toList, hw2] at h9
    exact h9)
  have HTH := Lib.hid (show w2.there w1.heap.size 0 s.cells.toArray.size from by
    refine HZ.out.there 0 _ ?_
    rw [List.size_toArray, Hs.len h.2, zero112]; decide)
  have HSZ := Lib.hid (show (Tryd.prog.info? 112).map (·.size) = some s.cells.toArray.size from by rw [List.size_toArray, Hs.len h.2]; exact size112)
  clear h hT hw1 hw2 hlen
  go_enter Tryd.func44, Tryd.ntmps44
  go_upto_region 1 with (fail)
  change Code.wp _ _ _ _ (w.alloc (.cells (noughts 32).toArray 33))
  rw [HW1.out]
  go_upto_region 2 with (first | (with_reducible refine wpList_ld rfl 112 (.tmp 12) rfl ⟨k, 0, none⟩ rfl _ HLD.out ?_) | (rw [HW2.out]; refine wpList_store_mid rfl 112 (.tmp 3) (.tmp 13) rfl w1.heap.size 0 s.cells.toArray rfl rfl HTH.out HSZ.out (all_oneCell_toArray s.one) ?_))
  obtain ⟨kc, hkc⟩ : ∃ kc, w1.heap.size = kc := ⟨_, rfl⟩
  rw [hkc]
  have HKC := Lib.hid hkc
  have hls : s.cells.length = Tryd.zeroCells112.toList.length := by rw [Hs.len HH.out.2, zero112]
  have HC3 := Lib.hid (show HashAt (w2.setCells kc 0 s.cells) kc s from ⟨by
    have h9 := Blk.setCells s.cells 0 w2 _ (hkc ▸ HZ.out)
    rw [sets_all _ _ hls] at h9
    exact h9, HH.out.2⟩)
  have HB3 := Lib.hid (show Below w1.heap.size w1 (w2.setCells kc 0 s.cells) from (But.setCells (k := kc) s.cells 0 w2 (But.of_below (show Below w1.heap.size w1 w2 from HW2.out ▸ below_alloc (Below.refl _ _) _))).new (by omega))
  obtain ⟨w3, hw3⟩ : ∃ w3, w2.setCells kc 0 s.cells = w3 := ⟨_, rfl⟩
  rw [hw3] at HC3 HB3 ⊢
  have HSZ3 := Lib.hid (show w3.heap.size = kc + 1 from by rw [← hw3, setCells_size, ← HW2.out, ← hkc]; simp)
  have ca := HC3.out.all
  clear hw3 hkc hls HZ HTH HSZ HLD
  go_upto_region 3 with (fail)
  obtain ⟨bt, hbt⟩ : ∃ bt : Nat, bt = 8 * s.al := ⟨_, rfl⟩
  have hb8 : (8 : Int) * (s.al : Int) = (bt : Int) := by omega
  have HBT := Lib.hid hbt
  have hbtb : bt ≤ 9223372036854775808 := by omega
  clear hbt
  obtain ⟨ke, hke⟩ : ∃ ke, w3.heap.size = ke := ⟨_, rfl⟩
  obtain ⟨i5, hi5, hz5, hs5, hby5⟩ := info_parts info5
  have hms := run_makeSlice (P := Tryd.prog) (w := w3) 30 5 i5 (.int .u8 0) Tryd.underlying30 hi5 hz5 .i64 .i64 1 72 (by decide) (by decide) (by rw [hs5]; decide) (by rw [hby5]; decide) (by decide)
  rw [hs5, hke, show madeCells (Value.int IntKind.u8 0).cells (Int.toNat 72 * 1) = (noughts 72).toArray from by kernel_rfl] at hms
  simp only [Int.toNat_one, show (72 : Int).toNat = 72 from rfl] at hms
  obtain ⟨w4, hw4⟩ : ∃ w4, w3.alloc (.cells (noughts 72).toArray 5) = w4 := ⟨_, rfl⟩
  have hE4 : Blk w4 ke 5 (noughts 72) := hke ▸ hw4 ▸ Blk.new w3 5 (noughts 72)
  have HB4 := Lib.hid (show Below ke w3 w4 from hke ▸ hw4 ▸ below_alloc (Below.refl _ _) _)
  rw [hw4] at hms
  have HKE := Lib.hid hke
  have e0 := hE4.cell 0
  have f0 := hE4.frozen 0
  rw [show (noughts 72)[0]? = some (b8 0) from rfl] at e0
  have HE4 := Lib.hid hE4
  clear hke hw4 hi5 hz5 hs5 hby5 hE4 ca
  go_upto_region 4 with (fail)
  clear hms
  go_wp2_with fail
  have HE5 := Lib.hid (show Blk (w4.setCell ⟨ke, 0, none⟩ (.int .u8 128)) ke 5 (b8 128 :: noughts 71) from HE4.out.set 0 (b8 128))
  have HB5 := Lib.hid (show Below ke w3 (w4.setCell ⟨ke, 0, none⟩ (.int .u8 128)) from HB4.out.setCell (p := ⟨ke, 0, none⟩) (Nat.le_refl _) _)
  obtain ⟨w5, hw5⟩ : ∃ w5, w4.setCell ⟨ke, 0, none⟩ (.int .u8 128) = w5 := ⟨_, rfl⟩
  rw [hw5] at HE5 HB5 ⊢
  have HR5 := Lib.hid (R_blk (n := 1) (cap := 72) (xs := [128]) HE5.out rfl rfl (by decide) (by decide) rfl)
  clear hw5 e0 f0 HE4 HB4 HE5
  rw [hb8]
  clear hb8
  obtain ⟨hv0, hhv⟩ : ∃ x, s.hv = x := ⟨_, rfl⟩
  have HHV := Lib.hid hhv
  rw [hhv] at hv
  have hcv := HC3.out.have_
  rw [hhv] at hcv
  have HCV := Lib.hid hcv
  obtain ⟨pz, hpz⟩ : ∃ p, p = padz hv0 := ⟨_, rfl⟩
  have hpz1 : pz < 64 := by rw [hpz]; unfold padz; omega
  have hpz2 : (hv0 + 1 + pz) % 64 = 56 := by rw [hpz]; unfold padz; omega
  have HPZ := Lib.hid hpz
  have hkck : kc < ke := by have := HKE.out; have := HSZ3.out; omega
  clear hhv hcv hpz
  go_loopw [5] (fun v5 wr => ∃ (j : Nat), j ≤ pz ∧ kB.R 5 wr ke (fun q => ke ≤ q) v5 (128 :: List.replicate j 0) ∧ Below ke w3 wr) (fun v5 _ => 65 - slen v5)
  case atStart => exact ⟨0, Nat.zero_le _, HR5.out, HB5.out⟩
  case round =>
    obtain ⟨j, hj, hr, hb⟩ := hrel
    clear HR5 HB5
    obtain ⟨A5, c5, rfl⟩ := Kd.R_slice hr
    rw [show (128 :: List.replicate j (0 : Int)).length = j + 1 from by simp] at hr ⊢
    have HR := Lib.hid hr
    have HB := Lib.hid hb
    have ch : wr.cell? ⟨kc, 72, none⟩ = some (.int .i64 (hv0 : Int)) := (hb.cell (p := ⟨kc, 72, none⟩) hkck).trans HCV.out
    obtain ⟨n, hn⟩ : ∃ n, j + 1 = n := ⟨_, rfl⟩
    rw [hn] at hr ⊢
    obtain ⟨m2, hm2⟩ : ∃ m, hv0 + n = m := ⟨_, rfl⟩
    have hsum : (hv0 : Int) + (n : Int) = (m2 : Int) := by omega
    have HN := Lib.hid hn
    have hnb : n ≤ 65 := by omega
    have hcap := (Kd.R_reads' hr).2.1
    obtain ⟨r, hr2⟩ : ∃ r, m2 % 64 = r := ⟨_, rfl⟩
    have hrem : Int.tmod (m2 : Int) 64 = (r : Int) := by rw [← hr2]; rfl
    have hrem2 : (m2 : Int) % 64 = (r : Int) := by omega
    by_cases he : r = 56
    · have hjp : j = pz := by
        have h9 := mod_same m2 (pz - j) (by omega) (by rw [show m2 + (pz - j) = hv0 + 1 + pz by omega]; exact hpz2) (by omega)
        omega
      have he' : (r : Int) = 56 := by omega
      have HRZ := Lib.hid (show kB.R 5 wr ke (fun q => ke ≤ q) (.slice A5 n c5) (128 :: List.replicate pz 0) from by rw [← hjp]; exact hr)
      have HBZ := Lib.hid hb
      have HNZ := Lib.hid (show n = pz + 1 from by omega)
      have hnb2 : n ≤ 64 := by omega
      clear he hr hb hn hm2 hr2 hjp
      go_wp2_with fail
      obtain ⟨wa, rfl⟩ : ∃ wa, wa = wr := ⟨_, rfl⟩
      go_loopw [5, 6] (fun v5 v6 wr => ∃ (t : Nat) (z : Int), t ≤ 8 ∧ z = 7 - (t : Int) ∧ v6 = .int .i64 z ∧ kB.R 5 wr ke (fun q => ke ≤ q) v5 (128 :: (List.replicate pz 0 ++ bitsN bt t)) ∧ Below ke w3 wr) (fun _ v6 _ => (RowKit.intOf v6 + 1).toNat)
      case atStart => exact ⟨0, 7, by decide, by decide, rfl, by simpa [bitsN] using HRZ.out, HBZ.out⟩
      case round =>
        obtain ⟨t, z, ht, hz, rfl, hr, hb⟩ := hrel
        clear HRZ HBZ
        obtain ⟨A5, c5, rfl⟩ := Kd.R_slice hr
        have HR := Lib.hid hr
        have HB := Lib.hid hb
        obtain ⟨xs, hxs⟩ : ∃ xs, (128 :: (List.replicate pz (0 : Int) ++ bitsN bt t)) = xs := ⟨_, rfl⟩
        have hxl : xs.length ≤ 72 := by rw [← hxs]; simp [bitsN]; omega
        obtain ⟨n, hn⟩ : ∃ n, xs.length = n := ⟨_, rfl⟩
        rw [hxs] at HR ⊢
        rw [hn] at HR hxl ⊢
        have HXS := Lib.hid hxs
        have HNX := Lib.hid hn
        clear hr hb hxs hn
        by_cases hlt : t < 8
        · obtain ⟨e, he⟩ : ∃ e : Nat, e = 7 - t := ⟨_, rfl⟩
          have hze : z = (e : Int) := by omega
          subst hze
          have he7 : e ≤ 7 := by omega
          have HE := Lib.hid he
          have hw8 : IntKind.i64.wrap (8 * (e : Int)) = ((8 * e : Nat) : Int) := by rw [IntWalk.i64_in _ (by omega)]; omega
          clear hz he
          have HBE := Lib.hid (show xs ++ [(bt : Int) / 2 ^ (8 * e) % 256] = 128 :: (List.replicate pz 0 ++ bitsN bt (t + 1)) from by
            rw [← HXS.out]
            unfold bitsN
            rw [List.range_succ, List.map_append, List.map_singleton, ← HE.out]
            simp)
          go_upto_region 9 with (first | (at_builtin; refine Kd.R_append kB (W := wr) (w0 := w3) ke rfl (.tmp 34) (.tmp 40) 30 5 _ 1 rfl Tryd.underlying30 info5 rfl (by decide) (by decide) (.slice A5 n c5) xs ((bt : Int) / 2 ^ (8 * e) % 256) [b8 ((bt : Int) / 2 ^ (8 * e) % 256)] (fun q => ke ≤ q) (fun _ => False) rfl rfl rfl (fun _ hk => hk.elim) (fun q hq => by have := HB.out.size; have := HKE.out; omega) HR.out HB.out (by have := HB.out.size; have := HKE.out; omega) (by rw [HNX.out]; omega) ?_; intro v6 w6 hr6 hb6 hg6 hat6; have HR6 := Lib.hid hr6; have HB6 := Lib.hid hb6; clear hr6 hb6 hg6 hat6))
          rw [HBE.out] at HR6
          clear hw8
          have hz1 : IntKind.i64.wrap ((e : Int) - 1) = (e : Int) - 1 := IntWalk.i64_in _ (by omega)
          go_wp2_with fail
          go_roundw
          case rel =>
            have he9 := HE.out
            exact ⟨t + 1, (e : Int) - 1, by omega, by omega, rfl, HR6.out, HB6.out⟩
          all_goals (have he9 := HE.out; simp only [RowKit.intOf]; omega)
        · obtain rfl : t = 8 := by omega
          obtain rfl : z = -1 := by omega
          have HEB := Lib.hid (show xs = endB pz bt from by rw [← HXS.out]; rfl)
          have hnx : n = pz + 9 := by rw [← HNX.out, ← HXS.out]; simp [bitsN]
          obtain ⟨wb, rfl⟩ : ∃ wb, wb = wr := ⟨_, rfl⟩
          have HCB := Lib.hid (show HashAt wb kc s from ⟨(HB.out.block kc hkck).trans HC3.out.1, HC3.out.2⟩)
          have HTB := Lib.hid (show Tabs bg rk wb from by
            have hw : Below w.heap.size w wb := (HB1.out.trans ((HB3.out.mono (HB1.out.size)))).trans (HB.out.mono (by have := HKC.out; have := HB1.out.size; omega))
            exact HT.out.below hw)
          have HSR := Lib.hid (show Src kc wb A5 xs from by
            obtain ⟨_, _, hC⟩ := Kd.R_reads' HR.out
            refine ⟨by rw [HNX.out]; omega, fun hp => ?_⟩
            obtain ⟨g, cap, hge, hgk, _⟩ := Kd.R_form HR.out hp
            injection hge with hg1 _ _
            obtain ⟨ad, ha, hcell⟩ := hC.2.2 hp
            refine ⟨ad, ha, ?_, fun j x hj => ?_⟩
            · rw [hg1] at ha
              have := Option.some.inj ha
              rw [← this]
              show g ≠ kc
              omega
            · obtain ⟨cs, hl1, hk, hc⟩ := hcell j x hj
              have hk' : cs = [Value.int .u8 x] := hk
              subst hk'
              have := hc 0 _ rfl
              rwa [show (Kd.int .u8).sz = 1 from rfl, Nat.mul_one, Nat.add_zero] at this)
          have hw := write_walk rk kc s xs A5 c5 wb HCB.out HTB.out.r (by have h1 : 1 < w.heap.size := World.block_lt_of_cell? w _ (HT.out.r 0 (by decide)); have := HKC.out; have := HB1.out.size; omega) (by rw [HHV.out]; exact hv) HSR.out (by rw [HNX.out]; exact (Kd.R_reads' HR.out).2.1) (by rw [HNX.out]; omega)
          rw [HNX.out] at hw
          obtain ⟨T, hT⟩ : ∃ T, written rk { s with al := s.al + n } xs = T := ⟨_, rfl⟩
          rw [hT] at hw
          have HWR := Lib.hid hw
          have HTT := Lib.hid hT
          have HNP := Lib.hid hnx
          clear hw hT hnx
          go_upto_region 12 with (go_at_call 43; refine HWR.out.mono ?_; rintro e w6 ⟨rfl, hh6, hv6, hb6⟩; have HH6 := Lib.hid hh6; have HB6 := Lib.hid hb6; clear hh6 hb6)
          have HLW := Lib.hid (fun W (hb : Below w6.heap.size w6 W) => (show (Instr.loadAt 109 (.pointer (some ⟨kc, 0, none⟩))).run Tryd.prog W = .ok (.agg (us T.ws).toArray) W from by
            have hl := run_loadCells_list (P := Tryd.prog) W ⟨kc, 0, none⟩ (us T.ws) (fun j v hj => by
              rw [Addr.add_lit, Nat.zero_add]
              have h9 := (HH6.out.1.below hb).cell j
              rw [h9]
              unfold Hs.cells
              rw [List.getElem?_append_left (List.getElem?_eq_some_iff.1 hj).1]
              exact hj)
            rw [show (us T.ws).length = 8 by simp [HH6.out.2.ws]] at hl
            simp only [Instr.loadAt, Instr.sureAddr, Sem.run_bind, Sem.run_pure, Result.andThen_ok, loadVar, Tryd.isAgg109, if_true, Tryd.sizeOf109, hl]))
          obtain ⟨w7, hw7⟩ : ∃ w7, w6.alloc (.cells (noughts 32).toArray 33) = w7 := ⟨_, rfl⟩
          obtain ⟨ki, hki⟩ : ∃ ki, w6.heap.size = ki := ⟨_, rfl⟩
          have HI7 := Lib.hid (show Blk w7 ki 33 (noughts 32) from hki ▸ hw7 ▸ Blk.new w6 33 (noughts 32))
          have HB7 := Lib.hid (show Below w6.heap.size w6 w7 from hw7 ▸ below_alloc (Below.refl _ _) _)
          have HLW7 := Lib.hid (HLW.out w7 HB7.out)
          have HKI := Lib.hid hki
          go_upto_region 13 with (fail)
          change Code.wp _ _ _ _ (w6.alloc (.cells (noughts 32).toArray 33))
          rw [hw7]
          clear hw7 hki HLW
          go_wp2_with (with_reducible refine wpList_ld rfl 109 (.tmp 44) rfl ⟨kc, 0, none⟩ rfl _ HLW7.out ?_)
          have hTl := HH6.out.2.ws
          obtain ⟨tw, htw⟩ : ∃ tw, T.ws = tw := ⟨_, rfl⟩
          rw [htw] at hTl ⊢
          have HTW := Lib.hid htw
          have HTL := Lib.hid hTl
          clear htw hTl HLW7
          go_loopw [46] (fun v46 wr => ∃ i : Nat, i ≤ 8 ∧ v46 = .int .i64 i ∧ Blk wr ki 33 ((run (outw tw) i zeros32).map b8) ∧ But ki w7 wr) (fun v46 _ => 8 - (RowKit.intOf v46).toNat)
          case atStart => exact ⟨0, Nat.zero_le _, rfl, HI7.out, But.refl _ _⟩
          case round =>
            obtain ⟨i, hi, rfl, hb, hbut⟩ := hrel
            have HBL := Lib.hid hb
            have HBU := Lib.hid hbut
            clear hb hbut
            by_cases hlt : i < 8
            · have hix : ∀ W, (Instr.index 109 (.agg (us tw).toArray) (.int .i64 (i : Int))).run Tryd.prog W = .ok (u (tw.getD i 0)) W := fun W => idx_word tw HTL.out i hlt W
              have HST := Lib.hid (show run (outw tw) (i + 1) zeros32 = run (setb (tw.getD i 0) i) 4 (run (outw tw) i zeros32) from rfl)
              obtain ⟨L, hL⟩ : ∃ L, run (outw tw) i zeros32 = L := ⟨_, rfl⟩
              have HLN := Lib.hid (show L.length = 32 from by rw [← hL]; exact run_len (n := 32) (outw_len tw) i zeros32 (by decide))
              rw [hL] at HBL HST
              obtain ⟨x, hx⟩ : ∃ x, tw.getD i 0 = x := ⟨_, rfl⟩
              rw [hx] at HST
              simp only [hx] at hix
              clear hL hx
              go_wp2_with fail
              clear hix
              obtain ⟨wo, rfl⟩ : ∃ wo, wo = wr := ⟨_, rfl⟩
              go_loopw [50] (fun v50 wr => ∃ q : Nat, q ≤ 4 ∧ v50 = .int .i64 q ∧ Blk wr ki 33 ((run (setb x i) q L).map b8) ∧ But ki w7 wr) (fun v50 _ => 4 - (RowKit.intOf v50).toNat)
              case atStart => exact ⟨0, Nat.zero_le _, rfl, HBL.out, HBU.out⟩
              case round =>
                obtain ⟨q, hq, rfl, hb, hbut⟩ := hrel
                clear HBL HBU
                by_cases hq4 : q < 4
                · have HL2 := Lib.hid (run_len (n := 32) (setb_len x i) q L HLN.out)
                  have HST2 := Lib.hid (show run (setb x i) (q + 1) L = setb x i q (run (setb x i) q L) from rfl)
                  obtain ⟨M, hM⟩ : ∃ M, run (setb x i) q L = M := ⟨_, rfl⟩
                  rw [hM] at hb HL2 HST2
                  obtain ⟨a, ha⟩ : ∃ a, 4 * i = a := ⟨_, rfl⟩
                  obtain ⟨p, hp⟩ : ∃ p, a + q = p := ⟨_, rfl⟩
                  obtain ⟨e, he⟩ : ∃ e, e = 24 - 8 * q := ⟨_, rfl⟩
                  have hw1 : IntKind.i64.wrap (4 * (i : Int)) = (a : Int) := by rw [IntWalk.i64_in _ (by omega)]; omega
                  have hw2 : IntKind.i64.wrap ((a : Int) + (q : Int)) = (p : Int) := by rw [IntWalk.i64_in _ (by omega)]; omega
                  have hw3 : (a : Int) + (q : Int) = (p : Int) := by omega
                  have hw4 : (4 : Int) * (i : Int) = (a : Int) := by omega
                  have hw5 : (24 : Int) - 8 * (q : Int) = (e : Int) := by omega
                  have qp0 : (0 : Int) ≤ (p : Int) := by omega
                  have qp1 : (p : Int) < 32 := by omega
                  have he24 : e ≤ 24 := by omega
                  have HSV := Lib.hid (show setb x i q M = M.set p (x / 2 ^ e % 256) from by rw [← hp, ← ha, he]; rfl)
                  have hth := hb.there p 1 (by rw [List.length_map, HL2.out]; omega)
                  have hcell : wr.cell? ⟨ki, p, none⟩ = some (b8 (M.getD p 0)) := by
                    rw [hb.cell, List.getElem?_map, List.getElem?_eq_getElem (by rw [HL2.out]; omega), List.getD_eq_getElem?_getD, List.getElem?_eq_getElem (by rw [HL2.out]; omega)]
                    rfl
                  have hfz := hb.frozen p
                  have HBL := Lib.hid hb
                  have HBU := Lib.hid hbut
                  clear hM ha hp he hb hbut hth
                  clear hw1 hw2
                  go_wp2_with fail
                  go_roundw
                  case rel =>
                    refine ⟨q + 1, by omega, by go_num, ?_, HBU.out.set p _⟩
                    rw [HST2.out, HSV.out, List.map_set]
                    exact HBL.out.set p _
                  all_goals (simp only [RowKit.intOf]; omega)
                · obtain rfl : q = 4 := by omega
                  have HBL := Lib.hid (show Blk wr ki 33 ((run (outw tw) (i + 1) zeros32).map b8) from by rw [HST.out]; exact hb)
                  have HBU := Lib.hid hbut
                  clear hb hbut
                  go_wp2_with fail
                  go_roundw
                  case rel => exact ⟨i + 1, by omega, by go_num, HBL.out, HBU.out⟩
                  all_goals (simp only [RowKit.intOf]; omega)
            · obtain rfl : i = 8 := by omega
              have HID := Lib.hid (show Blk wr ki 33 ((idOf tw).map b8) from HBL.out)
              have hil : (idOf tw).length = 32 := run_len (n := 32) (outw_len tw) 8 zeros32 (by decide)
              obtain ⟨I, hI⟩ : ∃ I, idOf tw = I := ⟨_, rfl⟩
              rw [hI] at HID hil
              have HII := Lib.hid hI
              have HLI := Lib.hid (HID.out.loads 33 Tryd.isAgg33 (fun W => by rw [List.length_map, hil]; exact Tryd.sizeOf33 W))
              have HWF := Lib.hid (show Below w1.heap.size w1 wr from by
                have b3 := HB3.out
                have b4 := (HB.out.mono (show w1.heap.size ≤ ke by have := HKC.out; omega))
                have b5 : Below w1.heap.size wb w6 := HB6.out.below_of (by have := HKC.out; omega) (by have := b3.size; have := b4.size; omega)
                have b6 := HB7.out.mono (show w1.heap.size ≤ w6.heap.size by have := b3.size; have := b4.size; have := b5.size; omega)
                have b7 : Below w1.heap.size w7 wr := HBU.out.below_of (by have := HKI.out; have := b3.size; have := b4.size; have := b5.size; omega) (by have := b3.size; have := b4.size; have := b5.size; have := b6.size; omega)
                exact (((b3.trans b4).trans b5).trans b6).trans b7)
              have HRV2 := Lib.hid (HRV.out.below HWF.out)
              have HTH := Lib.hid (HRV2.out.there 0 (I.map b8).toArray.size (by simp [hil]))
              have HSZ := Lib.hid (show (Tryd.prog.info? 33).map (·.size) = some (I.map b8).toArray.size from by rw [List.size_toArray, List.length_map, hil]; exact size33)
              have HON := Lib.hid (show (I.map b8).toArray.all (·.oneCell') = true from all_oneCell_toArray (fun v hv => by obtain ⟨x, _, rfl⟩ := List.mem_map.1 hv; rfl))
              have HIL := Lib.hid hil
              clear hI hil HBL
              go_wp2_with (first | (with_reducible refine wpList_ld rfl 33 (.tmp 7) rfl ⟨ki, 0, none⟩ rfl _ HLI.out ?_) | (refine wpList_store_mid rfl 33 (.tmp 2) (.tmp 66) rfl w.heap.size 0 (I.map b8).toArray rfl rfl HTH.out HSZ.out HON.out ?_))
              have HF := Lib.hid (show Blk (wr.setCells w.heap.size 0 (I.map b8)) w.heap.size 33 (I.map b8) from by
                have h9 := Blk.setCells (I.map b8) 0 wr _ HRV2.out
                rwa [sets_all _ _ (by rw [List.length_map, HIL.out]; rfl)] at h9)
              have HFB := Lib.hid ((But.setCells (k := w.heap.size) (I.map b8) 0 wr (But.of_below (HB1.out.trans (HWF.out.mono HB1.out.size)))).new (Nat.le_refl _))
              have HVAL := Lib.hid (show I = sumOf rk s from by
                rw [← HII.out, ← HTW.out, ← HTT.out, HNP.out, HEB.out, HPZ.out, HBT.out, ← HHV.out]
                rfl)
              refine bodyPost_ret (v := .agg (I.map b8).toArray) (results_single rfl (.cell w.heap.size 33 (I.map b8).toArray (0, 0) _ rfl HF.out Tryd.underlying33 rfl HSZ.out .nil)) rfl ⟨by rw [HVAL.out], HFB.out⟩
    · have he' : ¬ (r : Int) = 56 := by omega
      have hjp : j + 1 ≤ pz := by
        by_cases e : j = pz
        · subst e
          rw [show hv0 + 1 + j = m2 by omega] at hpz2
          omega
        · omega
      clear he hr hb hn hm2 hr2
      go_upto_region 6 with (fail)
      clear hrem hrem2 hsum ch
      go_wp2_with (first | (at_builtin; refine Kd.R_append kB (W := wr) (w0 := w3) ke rfl (.tmp 27) (.tmp 28) 30 5 _ 1 rfl Tryd.underlying30 info5 rfl (by decide) (by decide) (.slice A5 n c5) (128 :: List.replicate j 0) 0 [b8 0] (fun q => ke ≤ q) (fun _ => False) rfl rfl rfl (fun _ hk => hk.elim) (fun q hq => by have := HB.out.size; have := HKE.out; omega) (HN.out ▸ HR.out) HB.out (by have := HB.out.size; have := HKE.out; omega) (by simp; omega) ?_; intro v6 w6 hr6 hb6 hg6 hat6; have HR6 := Lib.hid hr6; have HB6 := Lib.hid hb6; clear hr6 hb6 hg6 hat6))
      obtain ⟨A6, c6, rfl⟩ := Kd.R_slice HR6.out
      go_roundw
      case rel => exact ⟨j + 1, by omega, by rw [List.replicate_succ']; exact HR6.out, HB6.out⟩
      have hn9 := HN.out
      all_goals (simp only [slen]; simp; omega)
end Go.Proofs.YtfbkkcigkpffiaaDoor.St
