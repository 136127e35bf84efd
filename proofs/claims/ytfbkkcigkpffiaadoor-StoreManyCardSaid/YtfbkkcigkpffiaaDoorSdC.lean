/- The walk of a hash's Write. -/
import Derived.Test.YtfbkkcigkpffiaaDoorSdB
namespace Go.Proofs.YtfbkkcigkpffiaaDoor.St
open Go Go.Lib Go.RowKit Go.ChangeMaps Go.Proofs.YtfbkkcigkpffiaaDoorW.PrintWords Go.Proofs.YtfbkkcigkpffiaaDoorW.PrintLast Go.Proofs.YtfbkkcigkpffiaaDoorW.PrintMore Go.Proofs.YtfbkkcigkpffiaaDoor.PStoreMany
set_option linter.unusedVariables false
set_option linter.unusedSimpArgs false
/-- One turn of Write's loop. -/
def wstep (rk : Nat → Int) (p : Hs × List Int) : Hs × List Int :=
  let n := min p.2.length (64 - p.1.hv)
  let tl := splice p.1.tl p.1.hv (p.2.take n)
  if p.1.hv + n = 64 then (⟨mixf rk p.1.ws tl, tl, 0, p.1.al⟩, p.2.drop n) else (⟨p.1.ws, tl, p.1.hv + n, p.1.al⟩, p.2.drop n)
theorem wstep_nil (rk : Nat → Int) (s : Hs) (h : s.hv < 64) : wstep rk (s, []) = (s, []) := by
  unfold wstep
  simp only [List.length_nil, Nat.zero_min, List.take_nil, Nat.add_zero, List.drop_nil]
  rw [if_neg (by omega)]
  simp [splice]
/-- Write's end: some number of turns leave nothing of the bytes. -/
def Ends (rk : Nat → Int) (s : Hs) (b : List Int) (t : Hs) : Prop := ∃ i, run (fun _ => wstep rk) i (s, b) = (t, []) ∧ t.hv < 64
theorem run_add {S : Type} (f : S → S) (i j : Nat) (s : S) : run (fun _ => f) (i + j) s = run (fun _ => f) j (run (fun _ => f) i s) := by
  induction j with
  | zero => rfl
  | succ j ih => rw [← Nat.add_assoc, run_succ, run_succ, ih]
theorem run_fix {S : Type} (f : S → S) (s : S) (h : f s = s) (j : Nat) : run (fun _ => f) j s = s := by
  induction j with
  | zero => rfl
  | succ j ih => rw [run_succ, ih, h]
theorem Ends.uniq {rk : Nat → Int} {s t t' : Hs} {b : List Int} (h : Ends rk s b t) (h' : Ends rk s b t') : t = t' := by
  obtain ⟨i, hi, ht⟩ := h
  obtain ⟨j, hj, ht'⟩ := h'
  rcases Nat.le_total i j with hij | hij
  · obtain ⟨d, rfl⟩ := Nat.exists_eq_add_of_le hij
    rw [run_add, hi, run_fix _ _ (wstep_nil rk t ht)] at hj
    exact congrArg Prod.fst hj
  · obtain ⟨d, rfl⟩ := Nat.exists_eq_add_of_le hij
    rw [run_add, hj, run_fix _ _ (wstep_nil rk t' ht')] at hi
    exact (congrArg Prod.fst hi).symm
open Classical in
noncomputable def written (rk : Nat → Int) (s : Hs) (b : List Int) : Hs := if h : ∃ t, Ends rk s b t then h.choose else s
theorem Ends.eq {rk : Nat → Int} {s t : Hs} {b : List Int} (h : Ends rk s b t) : written rk s b = t := by
  unfold written
  rw [dif_pos ⟨t, h⟩]
  exact (⟨t, h⟩ : ∃ t, Ends rk s b t).choose_spec.uniq h
/-- Bytes that lie outside block k. -/
def Src (k : Nat) (w : World) (A : Option Addr) (b : List Int) : Prop := b.length ≤ 140737488355328 ∧ (0 < b.length → ∃ ad, A = some ad ∧ ad.block ≠ k ∧ ∀ j x, b[j]? = some x → w.cell? (ad.add j) = some (b8 x))
theorem add_blk (a : Addr) (i : Nat) : (a.add i).block = a.block := by unfold Addr.add; split <;> rfl
theorem Src.but {k : Nat} {w w' : World} {A : Option Addr} {b : List Int} (h : Src k w A b) (hb : But k w w') : Src k w' A b := ⟨h.1, fun hp => by
  obtain ⟨ad, e, hk, hc⟩ := h.2 hp
  refine ⟨ad, e, hk, fun j x hj => ?_⟩
  have h1 := hc j x hj
  have h2 := World.block_lt_of_cell? w _ h1
  rw [← h1]
  have h3 : w'.heap[(ad.add j).block]? = w.heap[(ad.add j).block]? := hb.block _ h2 (by rw [add_blk]; exact hk)
  unfold World.cell?
  rw [h3]⟩
theorem add_add' (a : Addr) (i j : Nat) : (a.add i).add j = a.add (i + j) := by
  unfold Addr.add
  by_cases h1 : i = 0 <;> by_cases h2 : j = 0 <;> simp [h1, h2, Nat.add_assoc]
theorem Src.drop {k : Nat} {w : World} {A : Option Addr} {b : List Int} (h : Src k w A b) (n c : Nat) (hc : b.length ≤ c) : Src k w (if c = n then A else A.map (·.add n)) (b.drop n) := ⟨by rw [List.length_drop]; have := h.1; omega, fun hp => by
  rw [List.length_drop] at hp
  obtain ⟨ad, e, hk, hcell⟩ := h.2 (by omega)
  subst e
  rw [if_neg (by omega)]
  refine ⟨ad.add n, rfl, by rw [add_blk]; exact hk, fun j x hj => ?_⟩
  rw [List.getElem?_drop] at hj
  rw [add_add']
  exact hcell _ _ hj⟩
theorem But.setRow {k : Nat} {a b : World} (h : But k a b) (cs : Array Value) : But k a (b.setRow k cs) :=
  ⟨h.os, h.tape, h.output, by simpa [World.setRow] using h.size, fun j hj hk => (setRow_other b k j cs hk).trans (h.block j hj hk)⟩
theorem splice_len (L : List Int) (o : Nat) (cs : List Int) (h : o + cs.length ≤ L.length) : (splice L o cs).length = L.length := by
  simp [splice]; omega
/-- The tail written into. -/
theorem HashAt.put {w : World} {k : Nat} {s : Hs} (h : HashAt w k s) (cs : List Int) (hf : s.hv + cs.length ≤ 64) :
    HashAt (w.setRow k (s.cells.toArray.toList.take (8 + s.hv) ++ (cs.map b8 ++ s.cells.toArray.toList.drop (8 + s.hv + (cs.map b8).length))).toArray) k ⟨s.ws, splice s.tl s.hv cs, s.hv, s.al⟩ := by
  have h1 := h.1
  refine ⟨?_, h.2.ws, by rw [splice_len _ _ _ (by rw [h.2.tl]; exact hf)]; exact h.2.tl⟩
  have e : s.cells.toArray.toList.take (8 + s.hv) ++ (cs.map b8 ++ s.cells.toArray.toList.drop (8 + s.hv + (cs.map b8).length)) = Hs.cells ⟨s.ws, splice s.tl s.hv cs, s.hv, s.al⟩ := by
    have hl := h.2.ws
    have ht := h.2.tl
    unfold Hs.cells
    simp only [splice, List.length_map]
    have hus : (us s.ws).length = 8 := by simp [hl]
    have htl : (s.tl.map b8).length = 64 := by simp [ht]
    rw [show 8 + s.hv = (us s.ws).length + s.hv by rw [hus], List.take_length_add_append, show (us s.ws).length + s.hv + cs.length = (us s.ws).length + (s.hv + cs.length) by omega, List.drop_length_add_append,
      List.take_append_of_le_length (by rw [htl]; omega), List.drop_append_of_le_length (by rw [htl]; omega)]
    simp [List.map_take, List.map_drop]
  have := setRow_heap w k _ (Hs.cells ⟨s.ws, splice s.tl s.hv cs, s.hv, s.al⟩).toArray 112 _ h1
  unfold Blk
  rw [e]
  exact this
theorem cut_b (A : Option Addr) (N c k n1 c1 : Nat) (B : Option Addr) (hk : k ≤ N) (hn : n1 = N - k) (hc1 : c1 = c - k) (hB : B = if c = k then A else A.map (·.add k)) : ∀ W : World, (Instr.slice 30 (.slice A N c) (some (.int .i64 (k : Int))) none none).run Tryd.prog W = .ok (.slice B n1 c1) W := by
  intro W
  have hel : Tryd.prog.elem 30 = 5 := by simp [Program.elem, Tryd.underlying30]
  have hu : Tryd.prog.underlying 30 = some (.slice (Tryd.prog.elem 30)) := by rw [hel]; exact Tryd.underlying30
  subst hn hc1 hB
  rw [run_slice_l W 30 A N c hu .i64 (k : Int) (by omega) (by omega), hel, Tryd.sizeOf5]
  simp only [Result.andThen_ok, sliced, Int.toNat_natCast, Nat.mul_one]
theorem info5 : (Tryd.prog.info? 5).map (fun i => (i.zero, i.size, i.bytes)) = some (some (.int .u8 0), 1, 1) := by kernel_rfl
theorem cut_cap {P : Program} (t e : TypeId) (kh : IntKind) {i : TypeInfo} (ht : P.underlying t = some (.slice e)) (hi : P.info? e = some i) (A : Option Addr) (n c : Nat) (j : Int) (h0 : 0 ≤ j) (hm : j ≤ c) :
    ∀ W : World, (Instr.slice t (.slice A n c) none (some (.int kh j)) none).run P W = .ok (.slice A j.toNat c) W := by
  intro W
  have hel : P.elem t = e := by simp [Program.elem, ht]
  have hu : P.underlying t = some (.slice (P.elem t)) := by rw [hel]; exact ht
  have ha : (A.map fun x => x.add 0) = A := by cases A <;> simp [Addr.add]
  rw [run_slice_h W t A n c hu kh j h0 hm, hel]
  simp [sizeOf, typeInfo, hi, sliced, Result.andThen, ha]
def slen : Value → Nat
  | .slice _ n _ => n
  | _ => 0
set_option maxRecDepth 100000 in
set_option maxHeartbeats 4000000 in
theorem write_walk (rk : Nat → Int) (k : Nat) (s : Hs) (b : List Int) (A : Option Addr) (c : Nat) (w : World) (h : HashAt w k s) (hrk : ∀ t, t < 64 → w.cell? ⟨1, t, none⟩ = some (u (rk t))) (hk1 : k ≠ 1) (hv : s.hv < 64) (hS : Src k w A b) (hc : b.length ≤ c) (hal : s.al + b.length ≤ 4611686018427387904) :
    Calls Tryd.prog 43 #[.pointer (some ⟨k, 0, none⟩), .slice A b.length c] w fun e w' => e = .returned (.tuple #[]) ∧ HashAt w' k (written rk { s with al := s.al + b.length } b) ∧ (written rk { s with al := s.al + b.length } b).hv < 64 ∧ But k w w' := by
  have HH := Lib.hid h
  have HS := Lib.hid hS
  have HRK := Lib.hid hrk
  have hbl := hS.1
  obtain ⟨N, hN⟩ : ∃ N, b.length = N := ⟨_, rfl⟩
  have ca := h.all
  have fa := h.1.frozen 73
  have HN := Lib.hid hN
  rw [hN] at hc hal hbl ⊢
  clear h hS hrk hN
  go_enter Tryd.func43, Tryd.ntmps43
  go_wp2_with fail
  have hvn : ((s.al : Int) + (N : Int)) = ((s.al + N : Nat) : Int) := by omega
  obtain ⟨s1, hs1⟩ : ∃ s1 : Hs, s1 = { s with al := s.al + N } := ⟨_, rfl⟩
  obtain ⟨w1, hw1⟩ : ∃ w1, w.setCell ⟨k, 73, none⟩ (.int .u64 ((s.al : Int) + (N : Int))) = w1 := ⟨_, rfl⟩
  have HH1 := Lib.hid (show HashAt w1 k s1 from by rw [hs1, ← hw1, hvn]; exact HH.out.setAll _)
  have HB1 := Lib.hid (show But k w w1 from by rw [← hw1]; exact (But.refl k w).set 73 _)
  have hv1 : s1.hv < 64 := by rw [hs1]; exact hv
  have HS1 := Lib.hid (show Src k w1 A b from HS.out.but HB1.out)
  have HSE := Lib.hid hs1
  rw [hw1]
  clear hw1 hs1 hvn ca fa HH HS hv hal
  go_loopw [1] (fun v1 wr => ∃ (i : Nat) (s2 : Hs) (b2 : List Int) (A2 : Option Addr) (c2 : Nat), v1 = .slice A2 b2.length c2 ∧ run (fun _ => wstep rk) i (s1, b) = (s2, b2) ∧ HashAt wr k s2 ∧ s2.hv < 64 ∧ Src k wr A2 b2 ∧ b2.length ≤ c2 ∧ But k w wr) (fun v1 _ => slen v1)
  case atStart => exact ⟨0, s1, b, A, c, by rw [HN.out], rfl, HH1.out, hv1, HS1.out, by rw [HN.out]; exact hc, HB1.out⟩
  case round =>
    obtain ⟨i, s2, b2, A2, c2, rfl, hrun, hh, hv2, hS2, hc2, hbut⟩ := hrel
    have HHr := Lib.hid hh
    have HSr := Lib.hid hS2
    have HBr := Lib.hid hbut
    have HRUN := Lib.hid hrun
    have ch := hh.have_
    have hbl2 := hS2.1
    obtain ⟨M, hM⟩ : ∃ M, b2.length = M := ⟨_, rfl⟩
    have HM := Lib.hid hM
    rw [hM] at hc2 hbl2 ⊢
    clear hh hS2 hbut hrun hM HH1 HB1 HS1 hv1
    by_cases hpos : 0 < M
    · obtain ⟨hv0, hhv⟩ : ∃ x, s2.hv = x := ⟨_, rfl⟩
      have HHV := Lib.hid hhv
      rw [hhv] at ch hv2
      clear hhv
      obtain ⟨m, hm⟩ : ∃ m, m = 64 - hv0 := ⟨_, rfl⟩
      have hm0 : 0 < m := by omega
      have hm64 : hv0 + m = 64 := by omega
      have hw0 : IntKind.i64.wrap (64 - (hv0 : Int)) = (m : Int) := by rw [IntWalk.i64_in _ (by omega)]; omega
      have HMM := Lib.hid hm
      clear hm
      obtain ⟨n, hn⟩ : ∃ n, n = min M m := ⟨_, rfl⟩
      have hn0 : 0 < n := by omega
      have hnM : n ≤ M := by omega
      have hnm : n ≤ m := by omega
      have hmin : (if m < M then (m : Int) else (M : Int)) = (n : Int) := by split <;> omega
      have HN1 := Lib.hid hn
      clear hn
      go_upto_region 3 with (fail)
      obtain ⟨ad, hA2, hadk, hcell⟩ := HSr.out.2 (by rw [HM.out]; exact hpos)
      subst hA2
      have HCELL := Lib.hid hcell
      have HADK := Lib.hid hadk
      obtain ⟨i5, hi5, _, _, _⟩ := info_parts info5
      have hsl1 := cut_cap (P := Tryd.prog) 30 5 .i64 Tryd.underlying30 hi5 (some ad) M c2 (n : Int) (by omega) (by omega)
      rw [Int.toNat_natCast] at hsl1
      have ph : (0 : Int) ≤ (hv0 : Int) := by omega
      have qh : (hv0 : Int) ≤ 64 := by omega
      have h64 : ¬ (64 = hv0) := by omega
      have hm' : 64 - hv0 = m := HMM.out.symm
      clear hmin hi5 hcell hadk
      go_still_tail 11, (by kernel_rfl)
      change wpList _ _ _ _ _ wr.drew
      have HH2 := Lib.hid (show HashAt wr.drew k s2 from HHr.out)
      have HB2 := Lib.hid (show But k w wr.drew from HBr.out.trans (But.of_below (pw_below_drewN (Below.refl _ wr) 1)))
      have HC2 := Lib.hid (show ∀ j x, b2[j]? = some x → wr.drew.cell? (ad.add j) = some (b8 x) from HCELL.out)
      have HS2 := Lib.hid (show Src k wr.drew (some ad) b2 from HSr.out.but (But.of_below (pw_below_drewN (Below.refl _ wr) 1)))
      obtain ⟨wv, hwv⟩ : ∃ wv, wr.drew = wv := ⟨_, rfl⟩
      rw [hwv] at HH2 HB2 HC2 HS2 ⊢
      clear hwv hsl1 ph qh h64 hm' HCELL HHr HBr HSr ch
      have htk : (b2.take n).length = n := by rw [List.length_take, HM.out]; omega
      have htk' : ((b2.take n).map b8).length = n := by rw [List.length_map]; exact htk
      refine wpList_copy_own rfl (.tmp 33) (.tmp 36) 30 30 rfl 5 Tryd.underlying30 (by kernel_rfl) k (8 + hv0) m m ad n c2 rfl rfl s2.cells.toArray 112 HH2.out.1 ((b2.take n).map b8) ?_ (fun j v hj => ?_) ?_ (fun v hv => ?_) ?_
      · rw [htk']; exact (Nat.min_eq_left hnm).symm
      · rw [List.getElem?_map, List.getElem?_take] at hj
        split at hj
        · cases hx : b2[j]? with
          | none => rw [hx] at hj; simp at hj
          | some x => rw [hx] at hj; obtain rfl := (by simpa using hj : _ = v); exact HC2.out j x hx
        · simp at hj
      · rw [htk']
        have := HH2.out.2
        simp [Hs.cells, this.ws, this.tl]
        omega
      · obtain ⟨x, _, rfl⟩ := List.mem_map.1 hv
        rfl
      have HH3 := Lib.hid (show HashAt (wv.setRow k (s2.cells.toArray.toList.take (8 + hv0) ++ (((b2.take n).map b8) ++ s2.cells.toArray.toList.drop (8 + hv0 + ((b2.take n).map b8).length))).toArray) k ⟨s2.ws, splice s2.tl s2.hv (b2.take n), s2.hv, s2.al⟩ from by
        have h9 := HH2.out.put (b2.take n) (by rw [htk, HHV.out]; omega)
        rw [HHV.out] at h9 ⊢
        exact h9)
      have HB3 := Lib.hid (HB2.out.setRow (s2.cells.toArray.toList.take (8 + hv0) ++ (((b2.take n).map b8) ++ s2.cells.toArray.toList.drop (8 + hv0 + ((b2.take n).map b8).length))).toArray)
      have HS3 := Lib.hid (HS2.out.but ((But.refl k wv).setRow (s2.cells.toArray.toList.take (8 + hv0) ++ (((b2.take n).map b8) ++ s2.cells.toArray.toList.drop (8 + hv0 + ((b2.take n).map b8).length))).toArray))
      obtain ⟨wu, hwu⟩ : ∃ wu, wv.setRow k (s2.cells.toArray.toList.take (8 + hv0) ++ (((b2.take n).map b8) ++ s2.cells.toArray.toList.drop (8 + hv0 + ((b2.take n).map b8).length))).toArray = wu := ⟨_, rfl⟩
      rw [hwu] at HH3 HB3 HS3 ⊢
      rw [htk']
      obtain ⟨TL, hTL⟩ : ∃ TL, splice s2.tl s2.hv (b2.take n) = TL := ⟨_, rfl⟩
      have HST := Lib.hid (show wstep rk (s2, b2) = if hv0 + n = 64 then (⟨mixf rk s2.ws TL, TL, 0, s2.al⟩, b2.drop n) else (⟨s2.ws, TL, hv0 + n, s2.al⟩, b2.drop n) from by
        unfold wstep
        simp only [HM.out, HHV.out]
        rw [← HMM.out, ← HN1.out, ← hTL, HHV.out])
      rw [hTL] at HH3
      have ch := HH3.out.have_
      have fh := HH3.out.1.frozen 72
      simp only [HHV.out] at ch
      clear hwu htk htk' hTL HH2 HB2 HC2 HS2
      have hsum : (hv0 : Int) + (n : Int) = ((hv0 + n : Nat) : Int) := by omega
      obtain ⟨n1, hn1⟩ : ∃ n1, n1 = M - n := ⟨_, rfl⟩
      obtain ⟨c1, hc1⟩ : ∃ c1, c1 = c2 - n := ⟨_, rfl⟩
      obtain ⟨B6, hB6⟩ : ∃ B6, B6 = if c2 = n then some ad else (some ad).map (·.add n) := ⟨_, rfl⟩
      have hsl2 := cut_b (some ad) M c2 n n1 c1 B6 hnM hn1 hc1 hB6
      have HS4 := Lib.hid (show Src k wu B6 (b2.drop n) from hB6 ▸ HS3.out.drop n c2 (by rw [HM.out]; exact hc2))
      have HDL := Lib.hid (show (b2.drop n).length = n1 from by rw [List.length_drop, HM.out, hn1])
      have hn1c : n1 ≤ c1 := by omega
      have hn1M : n1 < M := by omega
      clear hn1 hc1 hB6 hsum
      obtain ⟨hv1, hhv1⟩ : ∃ x, hv0 + n = x := ⟨_, rfl⟩
      have hvs : (hv0 : Int) + (n : Int) = (hv1 : Int) := by omega
      have hv1b : hv1 ≤ 64 := by omega
      rw [hhv1] at HST
      clear hhv1
      go_upto_region 5 with (fail)
      have HH4 := Lib.hid (show HashAt (wu.setCell ⟨k, 72, none⟩ (.int .i64 (hv1 : Int))) k ⟨s2.ws, TL, hv1, s2.al⟩ from HH3.out.setHave hv1)
      have HB4 := Lib.hid (HB3.out.set 72 (.int .i64 (hv1 : Int)))
      have HS5 := Lib.hid (HS4.out.but ((But.refl k wu).set 72 (.int .i64 (hv1 : Int))))
      obtain ⟨wx, hwx⟩ : ∃ wx, wu.setCell ⟨k, 72, none⟩ (.int .i64 (hv1 : Int)) = wx := ⟨_, rfl⟩
      rw [hwx] at HH4 HB4 HS5 ⊢
      have ch := HH4.out.have_
      simp only at ch
      have HRX := Lib.hid (show ∀ t, t < 64 → wx.cell? ⟨1, t, none⟩ = some (u (rk t)) from fun t ht => by
        have h9 := HRK.out t ht
        have h1k : 1 < w.heap.size := World.block_lt_of_cell? w _ h9
        have h10 : wx.heap[1]? = w.heap[1]? := HB4.out.block 1 h1k (fun e => hk1 e.symm)
        have h11 : wx.cell? ⟨1, t, none⟩ = w.cell? ⟨1, t, none⟩ := by unfold World.cell?; rw [h10]
        exact h11.trans h9)
      have HRN := Lib.hid (show run (fun _ => wstep rk) (i + 1) (s1, b) = wstep rk (s2, b2) from by rw [run_succ, HRUN.out])
      clear hwx hvs HH3 HB3 HS3 HS4 fh
      by_cases h64 : hv1 = 64
      · subst h64
        rw [if_pos rfl] at HST
        rw [show ((64 : Nat) : Int) = 64 from rfl] at ch ⊢
        have HMX := Lib.hid (mix_walk rk k _ wx HH4.out HRX.out hk1)
        go_upto_region 8 with (go_at_call 57; refine HMX.out.mono ?_; rintro e wy ⟨rfl, hhy, hby⟩; have HHY := Lib.hid hhy; have HBY := Lib.hid hby; clear hhy hby)
        have cy := HHY.out.have_
        have fy := HHY.out.1.frozen 72
        simp only at cy
        have HHZ := Lib.hid (HHY.out.setHave 0)
        have HBZ := Lib.hid (HB4.out.trans (HBY.out.set 72 (.int .i64 ((0 : Nat) : Int))))
        have HSZ := Lib.hid (HS5.out.but (HBY.out.set 72 (.int .i64 ((0 : Nat) : Int))))
        clear ch hsl2
        go_wp2_with fail
        go_roundw
        case rel => exact ⟨i + 1, ⟨mixf rk s2.ws TL, TL, 0, s2.al⟩, b2.drop n, B6, c1, by rw [HDL.out], by rw [HRN.out, HST.out], HHZ.out, (by show (0 : Nat) < 64; decide), HSZ.out, by rw [HDL.out]; exact hn1c, HBZ.out⟩
        all_goals (simp only [slen]; omega)
      · have h64' : ¬ (hv1 : Int) = 64 := by omega
        rw [if_neg h64] at HST
        clear h64
        go_wp2_with fail
        go_roundw
        case rel => exact ⟨i + 1, ⟨s2.ws, TL, hv1, s2.al⟩, b2.drop n, B6, c1, by rw [HDL.out], by rw [HRN.out, HST.out], HH4.out, by show hv1 < 64; omega, HS5.out, by rw [HDL.out]; exact hn1c, HB4.out⟩
        all_goals (simp only [slen]; omega)
    · have hM0 : M = 0 := by omega
      subst hM0
      have hb0 : b2 = [] := List.eq_nil_of_length_eq_zero HM.out
      subst hb0
      have HE := Lib.hid (show written rk { s with al := s.al + N } b = s2 from by rw [← HSE.out]; exact Ends.eq (⟨i, HRUN.out, hv2⟩ : Ends rk s1 b s2))
      go_wp2_with fail
      go_end0
      rw [HE.out]
      exact ⟨rfl, HHr.out, hv2, HBr.out⟩
end Go.Proofs.YtfbkkcigkpffiaaDoor.St
