/- Crash: what it tells, plainly; the walk of its closure. -/
import Derived.Test.YtonecajkfbdnmaaEg
namespace Go.Proofs.Ytonecajkfbdnmaa.Dk
open Go.Lib Go.RowKit Go.ChangeMaps Go.Proofs.Ytonecajkfbdnmaa.Mp Go.Proofs.YtonecajkfbdnmaaW.PrintWords Go.Proofs.YtonecajkfbdnmaaW.PrintLast Go.Proofs.YtonecajkfbdnmaaW.PrintMore Go.Proofs.Ytonecajkfbdnmaa.PDiskRoom
set_option linter.unusedVariables false
set_option linter.unusedSimpArgs false

/-- The next pick, modulo n + 1, from 0 on; the picks behind it. -/
def nextP (l : List Int) (n : Nat) : Nat × List Int :=
  match l with
  | [] => (0, [])
  | p :: r => ((p % ((n : Int) + 1)).toNat, r)
theorem nextP_le (l : List Int) (n : Nat) : (nextP l n).1 ≤ n := by
  cases l with
  | nil => exact Nat.zero_le _
  | cons p r =>
    show (p % ((n : Int) + 1)).toNat ≤ n
    have h1 := Int.emod_lt_of_pos p (show (0 : Int) < (n : Int) + 1 by omega)
    omega
def Dk.part (d : Dk) (f k : Nat) : By := unplay (d.file f).kept ((d.file f).units.take k)
def Dk.crashFiles (d : Dk) : AM → List Int → Img
  | [], _ => []
  | (n, f) :: m, r => (n, d.part f (nextP r (d.file f).units.length).1) :: d.crashFiles m (nextP r (d.file f).units.length).2
def Dk.crash (d : Dk) (picks : List Int) : Img := d.crashFiles (chplay d.sure (d.changes.take (nextP picks d.changes.length).1)) (nextP picks d.changes.length).2
theorem tmod_fix (p : Int) (n : Nat) : (if Int.tmod p ((n : Int) + 1) < 0 then Int.tmod p ((n : Int) + 1) + ((n : Int) + 1) else Int.tmod p ((n : Int) + 1)) = (((p % ((n : Int) + 1)).toNat : Nat) : Int) := by
  have hpos : (0 : Int) < (n : Int) + 1 := by omega
  have h1 := Int.emod_nonneg p (show ((n : Int) + 1) ≠ 0 by omega)
  have h2 := Int.emod_lt_of_pos p hpos
  rw [Int.toNat_of_nonneg h1]
  have h3 := Int.emod_add_mul_ediv p ((n : Int) + 1)
  have h4 := Int.tmod_add_mul_tdiv p ((n : Int) + 1)
  by_cases hp : 0 ≤ p
  · rw [Int.tmod_eq_emod_of_nonneg hp, if_neg (by omega)]
  · have h5 : Int.tmod p ((n : Int) + 1) = -Int.tmod (-p) ((n : Int) + 1) := by rw [Int.neg_tmod]; omega
    have h6 := Int.tmod_nonneg ((n : Int) + 1) (show 0 ≤ -p by omega)
    have h7 := Int.tmod_lt_of_pos (-p) hpos
    by_cases hz : Int.tmod p ((n : Int) + 1) = 0
    · rw [hz, if_neg (by omega)]
      have : ((n : Int) + 1) ∣ p := Int.dvd_of_tmod_eq_zero hz
      exact (Int.emod_eq_zero_of_dvd this).symm
    · rw [if_pos (by omega)]
      have h8 : (Int.tmod p ((n : Int) + 1) + ((n : Int) + 1)) % ((n : Int) + 1) = Int.tmod p ((n : Int) + 1) + ((n : Int) + 1) := Int.emod_eq_of_lt (by omega) (by omega)
      rw [← h8, Int.add_emod_right]
      have h9 : p = Int.tmod p ((n : Int) + 1) + ((n : Int) + 1) * Int.tdiv p ((n : Int) + 1) := h4.symm
      conv => rhs; rw [h9]
      rw [Int.add_mul_emod_self_left]
theorem tmod_bd0 (n m : Int) (hm : 0 < m) : -m < Int.tmod n m ∧ Int.tmod n m < m := by
  rcases Int.le_total 0 n with h | h
  · have h1 := Int.tmod_lt_of_pos n hm
    have h2 := Int.tmod_nonneg m h
    omega
  · have e : Int.tmod n m = - Int.tmod (-n) m := by rw [Int.neg_tmod]; omega
    have h1 := Int.tmod_lt_of_pos (-n) hm
    have h2 := Int.tmod_nonneg m (show 0 ≤ -n by omega)
    omega
theorem info3 : (Try.prog.info? 3).map (fun i => (i.zero, i.size, i.bytes)) = some (some (.int .i64 0), 1, 8) := by kernel_rfl
/-- The variable that holds the picks. -/
def Pick (wI : World) (P : Nat) (w : World) (l : List Int) : Prop := ∃ A c, w.heap[P]? = some (.cells #[.slice A l.length c] 23 (0, 0)) ∧ l.length ≤ c ∧ Kd.C (Kd.int .i64) wI A l.length l
theorem Pick.move {wI : World} {P : Nat} {w w' : World} {l : List Int} (h : Pick wI P w l) (e : w'.heap[P]? = w.heap[P]?) : Pick wI P w' l := by
  obtain ⟨A, c, h1, h2⟩ := h
  exact ⟨A, c, e.trans h1, h2⟩
theorem int_at {w : World} {A : Option Addr} {xs : List Int} (h : Kd.C (Kd.int .i64) w A xs.length xs) (i : Nat) (hi : i < xs.length) : ∃ ad, A = some ad ∧ w.cell? (ad.add i) = some (.int .i64 xs[i]) := by
  obtain ⟨ad, c, e, _, hK, hc⟩ := Kd.C_get h (0 : Int) (i : Int) (by omega) (by omega)
  have hc' : c = [Value.int .i64 (xs.getD (i : Int).toNat 0)] := hK
  subst hc'
  refine ⟨ad, e, ?_⟩
  have := hc 0 _ rfl
  rw [show (Kd.int .i64).sz = 1 from rfl, Int.toNat_natCast, Nat.mul_one, Nat.add_zero] at this
  rw [this, List.getD_eq_getElem?_getD, List.getElem?_eq_getElem hi]
  rfl
set_option maxRecDepth 100000 in
set_option maxHeartbeats 2000000 in
theorem next_walk (wI : World) (P : Nat) (w : World) (l : List Int) (h : Pick wI P w l) (hb : Below wI.heap.size wI w) (n : Nat) (hn : n ≤ 1000000000) (hl : ∀ x ∈ l, -9223372036854775808 ≤ x ∧ x ≤ 9223372036854775807) :
    Calls Try.prog 45 #[.int .i64 (n : Int), .pointer (some ⟨P, 0, none⟩)] w fun e w' => e = .returned (.int .i64 ((nextP l n).1 : Int)) ∧ Pick wI P w' (nextP l n).2 ∧ w.grownBy w' (some P) := by
  obtain ⟨A, c, hP, hlc, hC⟩ := h
  have HP := Lib.hid hP
  have c0 := blk_cell hP 0
  have f0 := blk_frozen hP 0
  simp at c0
  cases l with
  | nil =>
    have HC := Lib.hid hC
    have HH := Lib.hid (show Pick wI P w [] from ⟨A, c, hP, hlc, hC⟩)
    clear hP hC
    go_enter Try.func45, Try.ntmps45
    go_wp2_with fail
    go_ret
    exact ⟨rfl, HH.out, World.grownBy.refl _ _⟩
  | cons p r =>
    obtain ⟨ad, hA, g0⟩ := int_at hC 0 (by simp)
    subst hA
    have g1 : w.cell? ad = some (.int .i64 p) := by
      have h9 := pw_cell_below hb g0
      rw [show ad.add 0 = ad by unfold Addr.add; split <;> simp_all] at h9
      exact h9
    obtain ⟨i3, hi3, _, hs3, _⟩ := info_parts info3
    have hsl := cut_from (P := Try.prog) 23 3 .i64 Try.underlying23 hi3 1 hs3 (some ad) (r.length + 1) c 1 (by omega) (by omega)
    replace c0 : w.cell? ⟨P, 0, none⟩ = some (.slice (some ad) (r.length + 1) c) := c0
    have hdr := Kd.C_drop (c := c) (m := 1) hC (by simp) hlc
    rw [show (1 : Int).toNat = 1 from rfl] at hsl
    rw [show (Kd.int .i64).sz = 1 from rfl] at hdr
    obtain ⟨A2, hA2⟩ : ∃ A2, (if c = 1 then some ad else (some ad).map (·.add (1 * 1))) = A2 := ⟨_, rfl⟩
    rw [hA2] at hsl hdr
    rw [Nat.add_sub_cancel] at hsl
    have hq1 : (1 : Int) ≤ ((r.length + 1 : Nat) : Int) := by omega
    have hq2 : (0 : Int) < ((r.length + 1 : Nat) : Int) := by omega
    have hdr2 : Kd.C (Kd.int .i64) wI A2 r.length r := by simpa using hdr
    have HD := Lib.hid hdr2
    have hc1 : r.length ≤ c - 1 := by simp at hlc; omega
    have HTF := Lib.hid (tmod_fix p n)
    have hpb := hl p (by simp)
    have hm0 : (0 : Int) < (n : Int) + 1 := by omega
    have hmb := tmod_bd0 p ((n : Int) + 1) hm0
    clear hdr hdr2 hA2 hC hi3 hs3 g0 hP
    by_cases hneg : Int.tmod p ((n : Int) + 1) < 0
    · have hr : nextP (p :: r) n = ((p % ((n : Int) + 1)).toNat, r) := rfl
      rw [hr]
      rw [if_pos hneg] at HTF
      rw [← HTF.out]
      go_enter Try.func45, Try.ntmps45
      go_wp2_with fail
      go_ret
      exact ⟨rfl, ⟨A2, c - 1, blk_set HP.out 0 _, hc1, HD.out⟩, ⟨rfl, rfl, rfl, by simp, fun k hk hn => Below.heap_setCell _ _ _ k (fun e => hn (by have e' : k = P := e; rw [e']))⟩⟩
    · have hr : nextP (p :: r) n = ((p % ((n : Int) + 1)).toNat, r) := rfl
      rw [hr]
      rw [if_neg hneg] at HTF
      rw [← HTF.out]
      go_enter Try.func45, Try.ntmps45
      go_wp2_with fail
      go_ret
      exact ⟨rfl, ⟨A2, c - 1, blk_set HP.out 0 _, hc1, HD.out⟩, ⟨rfl, rfl, rfl, by simp, fun k hk hn => Below.heap_setCell _ _ _ k (fun e => hn (by have e' : k = P := e; rw [e']))⟩⟩
end Go.Proofs.Ytonecajkfbdnmaa.Dk

namespace Go.Proofs.Ytonecajkfbdnmaa.Dk
open Go.Lib Go.RowKit Go.ChangeMaps Go.Proofs.Ytonecajkfbdnmaa.Mp Go.Proofs.YtonecajkfbdnmaaW.PrintWords Go.Proofs.YtonecajkfbdnmaaW.PrintLast Go.Proofs.YtonecajkfbdnmaaW.PrintMore Go.Proofs.Ytonecajkfbdnmaa.PDiskRoom
set_option linter.unusedVariables false
set_option linter.unusedSimpArgs false

theorem chok_take : ∀ (l : List Ch) (m : AM) (k : Nat), ChOk m l → ChOk m (l.take k)
  | [], m, k, h => by rw [List.take_nil]; exact h
  | c :: l, m, 0, h => trivial
  | c :: l, m, k + 1, h => ⟨h.1, chok_take l _ k h.2⟩
/-- The same entries: the same map. -/
theorem KvIs.same {kv : KV} {m m' : AM} {blk : Nat → Nat} (h : KvIs kv m blk) (hs : Srt m) (hs' : Srt m') (he : ∀ x, x ∈ m ↔ x ∈ m') : KvIs kv m' blk :=
  ⟨h.1, fun k => by
    rw [h.2 k]
    congr 1
    cases e : aget m k with
    | none =>
      cases e' : aget m' k with
      | none => rfl
      | some f =>
        have := (he (k, f)).2 ((mem_aget hs' k f).2 e')
        rw [mem_aget hs, e] at this
        cases this
    | some f =>
      have := (he (k, f)).1 ((mem_aget hs k f).2 e)
      rw [mem_aget hs'] at this
      exact this.symm⟩
/-- The copy of the safe names, as far as it goes. -/
def Copied (w : World) (M : Nat) (blk : Nat → Nat) (done : AM) : Prop := ∃ kv m', SMap w M kv ∧ Srt m' ∧ KvIs kv m' blk ∧ ∀ x, x ∈ m' ↔ x ∈ done
theorem kU_open {w : World} {x : U90} {cs : List Value} (h : kU.K w x cs) : cs = [.bool x.cut, .int .u8 x.b, .int .i64 x.at_] := by
  obtain ⟨_, _, rfl, rfl, ⟨_, _, rfl, rfl, rfl⟩⟩ := h
  rfl
theorem at_U {w : World} {A : Option Addr} {xs : List U90} (h : Kd.C kU w A xs.length xs) (i : Nat) (hi : i < xs.length) : ∃ ad, A = some ad ∧ w.cell? (ad.add (i * 3)) = some (.bool xs[i].cut) ∧
    w.cell? ⟨(ad.add (i * 3)).block, (ad.add (i * 3)).off + 1, none⟩ = some (.int .u8 xs[i].b) ∧ w.cell? ⟨(ad.add (i * 3)).block, (ad.add (i * 3)).off + 2, none⟩ = some (.int .i64 xs[i].at_) := by
  obtain ⟨ad, c, e, _, hK, hc0⟩ := Kd.C_get h (⟨false, 0, 0⟩ : U90) (i : Int) (by omega) (by omega)
  have hc : ∀ j u, c[j]? = some u → w.cell? (ad.add (i * 3 + j)) = some u := hc0
  rw [Int.toNat_natCast, List.getD_eq_getElem?_getD, List.getElem?_eq_getElem hi] at hK
  obtain rfl := kU_open hK
  exact ⟨ad, e, hc 0 _ rfl, by rw [← add_field _ _ 1 (by omega)]; exact hc 1 _ rfl, by rw [← add_field _ _ 2 (by omega)]; exact hc 2 _ rfl⟩
theorem crashFiles_len (d : Dk) : ∀ (m : AM) (r : List Int), (d.crashFiles m r).length = m.length
  | [], _ => rfl
  | (n, f) :: m, r => by simp only [Dk.crashFiles, List.length_cons, crashFiles_len d m]
theorem unplay_len : ∀ (us : List Un) (s : By), (unplay s us).length ≤ s.length + us.length
  | [], s => by simp [unplay]
  | .add b :: us, s => by
    have := unplay_len us (s ++ [b])
    show (unplay (s ++ [b]) us).length ≤ _
    simp at this ⊢; omega
  | .cut n :: us, s => by
    have := unplay_len us (s.take n)
    show (unplay (s.take n) us).length ≤ _
    have h2 := List.length_take_le' n s
    simp only [List.length_cons]; omega
theorem unok_at : ∀ (us : List Un) (s : By) (j : Nat) (hj : j < us.length), UnOk s us → us[j].ok (unplay s (us.take j))
  | u :: us, s, 0, _, h => h.1
  | u :: us, s, j + 1, hj, h => unok_at us (u.play s) j (by simpa using hj) h.2
theorem unplay_succ (s : By) (us : List Un) (j : Nat) (hj : j < us.length) : unplay s (us.take (j + 1)) = us[j].play (unplay s (us.take j)) := by
  rw [List.take_succ_eq_append_getElem hj, unplay_snoc]
set_option maxRecDepth 100000 in
set_option maxHeartbeats 8000000 in
theorem crash_walk (own : Own) (w : World) (kd : Nat) (blk : Nat → Nat) (d : Dk) (h : Rep own w kd blk d) (hi : d.Inv) (B : Nat) (hbd : Bd d B) (hB : B ≤ 1000000000) (wI : World) (hbI : Below wI.heap.size wI w) (A : Option Addr) (c : Nat) (l : List Int) (hC : Kd.C (Kd.int .i64) wI A l.length l) (hlc : l.length ≤ c)
    (hl : ∀ x ∈ l, -9223372036854775808 ≤ x ∧ x ≤ 9223372036854775807) :
    Calls Try.prog 21 #[ptr kd, .slice A l.length c] w fun e w' => ∃ v, e = .returned v ∧ Kd.R k28 28 w' w.heap.size (fun k => w.heap.size ≤ k) v ((d.crash l).map encF) ∧ Below w.heap.size w w' := by
  obtain ⟨kn, ks, vc, hb, _⟩ := h.disk
  obtain ⟨kn', ks', vc', o1, o2, b0, b1, ⟨kv, hm, hkv⟩, b3⟩ := h.body
  rw [hb] at b0
  simp only [cells, Option.some.injEq, Obj.cells.injEq, Array.mk.injEq, List.cons.injEq, Value.map.injEq, and_true, true_and] at b0
  obtain ⟨rfl, rfl, rfl⟩ := b0
  have hmm := @run_makeMap Try.prog
  have HH := Lib.hid h
  have HB := Lib.hid hb
  have HM := Lib.hid hm
  have HKV := Lib.hid hkv
  have HI := Lib.hid hi
  have HBD := Lib.hid hbd
  have HBI := Lib.hid hbI
  have HC := Lib.hid hC
  have HLC := Lib.hid hlc
  have HL := Lib.hid hl
  have HO2 := Lib.hid o2
  have hkslt := hm.lt
  have hkdlt := blk_lt hb
  clear h hb hm hkv hi hbd hbI hC hlc hl o1 o2 b1 b3
  unfold ptr
  go_enter Try.func21, Try.ntmps21
  go_upto_region 3 with (fail)
  obtain ⟨wz, hwz⟩ : ∃ wz, (w.alloc (.cells #[.slice A l.length c] 23)).alloc (.map #[] 0) = wz := ⟨_, rfl⟩
  obtain ⟨P, hP⟩ : ∃ P, w.heap.size = P := ⟨_, rfl⟩
  have hbz : Below w.heap.size w wz := hwz ▸ below_alloc (below_alloc (Below.refl _ _) _) _
  have hzs : wz.heap.size = P + 2 := by rw [← hwz, ← hP]; simp
  have hPz : wz.heap[P]? = some (.cells #[.slice A l.length c] 23 (0, 0)) := by
    rw [← hwz, ← hP, heap_alloc_old _ _ (by simp)]; exact blk_new w _
  have hMz : SMap wz (P + 1) [] := ⟨#[], 0, by
    rw [← hwz, ← hP]
    have := heap_alloc_new (w.alloc (.cells #[.slice A l.length c] 23)) (.map #[] 0)
    simpa using this, rfl, by simp, by simp⟩
  have c3 := blk_cell (blk_below HB.out hbz) 3
  simp [cells] at c3
  have hmz : SMap wz ks kv := HM.out.of_block (hbz.block ks hkslt)
  obtain ⟨o, hrun, hrng⟩ := run_range (P := Try.prog) kv hmz Try.underlying78
  rw [hzs] at hrun hrng
  rw [hwz, hP]
  have HBZ := Lib.hid hbz
  have HPZ := Lib.hid hPz
  have HMZ := Lib.hid hMz
  have HRNG := Lib.hid hrng
  have HPP := Lib.hid hP
  have HZS := Lib.hid hzs
  clear hwz hbz hPz hMz hmz hrng hzs hmm hP
  go_wp2_with fail
  go_loopg [] d.sure.length (fun gf wr => ∃ (left : KV) (rest done : AM), rest.length ≤ gf ∧ left.Perm (rest.map (encM blk)) ∧ (done ++ rest).Perm d.sure ∧ Copied wr (P + 1) blk done ∧ Pick wI P wr l ∧ Below w.heap.size w wr ∧ P + 2 < wr.heap.size ∧ Rng wr ks (P + 2) left)
  case atStart =>
    refine ⟨kv, d.sure, [], Nat.le_refl _, HKV.out.perm HI.out.ok.ss, List.Perm.refl _, ⟨[], [], SMap_alloc HMZ.out _, List.Pairwise.nil, KvIs.nil _, by simp⟩, ⟨A, c, (heap_alloc_old _ _ (by rw [HZS.out]; omega)).trans HPZ.out, HLC.out, HC.out⟩, below_alloc HBZ.out _, by simp [HZS.out], ?_⟩
    exact HRNG.out
  case round =>
    obtain ⟨left, rest, done, hgf, hlp, hdp, hcp, hpk, hbw, hsz, hrg⟩ := hrel
    have hne : ks ≠ P + 2 := by have := HPP.out; omega
    rcases run_next (P := Try.prog) left hrg hne 0 with ⟨rfl, hnx⟩ | ⟨x, left', w1, o1, hpx, hw1, hnx, hrg1, hcur⟩
    · have hr0 : rest = [] := by
        have := hlp.length_eq
        simp at this
        exact List.eq_nil_of_length_eq_zero this.symm
      subst hr0
      rw [List.append_nil] at hdp
      obtain ⟨kv1, m1, hm1, hs1, hk1, hmem⟩ := hcp
      have hk2 : KvIs kv1 d.sure blk := hk1.same hs1 HI.out.ok.ss (fun x => (hmem x).trans hdp.mem_iff)
      have HM1 := Lib.hid hm1
      have HK2 := Lib.hid hk2
      have HPK := Lib.hid hpk
      have HBW := Lib.hid hbw
      clear hlp hdp hm1 hs1 hk1 hmem hk2 hpk hbw hrg
      obtain ⟨kn2, ks2, vc2, _, _, q0, _, _, q3⟩ := HH.out.body
      obtain ⟨Ach, cch, rfl⟩ := Kd.R_slice q3
      have hlch : (d.changes.map (encC blk)).length = d.changes.length := List.length_map ..
      have hrd := Kd.R_reads' q3
      rw [hlch] at q0 hrd
      have c4 := pw_cell_below HBW.out (blk_cell q0 4)
      simp at c4
      obtain ⟨k1, hk1e⟩ : ∃ k1, (nextP l d.changes.length).1 = k1 := ⟨_, rfl⟩
      obtain ⟨r1, hr1e⟩ : ∃ r1, (nextP l d.changes.length).2 = r1 := ⟨_, rfl⟩
      have hk1le := nextP_le l d.changes.length
      rw [hk1e] at hk1le
      have hbch := HBD.out.changes
      have HNX := Lib.hid (fun W (hp : Pick wI P W l) (hbb : Below wI.heap.size wI W) => next_walk wI P W l hp hbb d.changes.length (by omega) HL.out)
      rw [hk1e, hr1e] at HNX
      obtain ⟨i99, hi99, _, hs99, _⟩ := info_parts info99
      have hsl := cut_to (P := Try.prog) 79 99 .i64 Try.underlying79 hi99 Ach d.changes.length cch (k1 : Int) (by omega) (by omega) hrd.2.1
      rw [Int.toNat_natCast] at hsl
      have hbIw : Below wI.heap.size wI wr := HBI.out.trans (HBW.out.mono HBI.out.size)
      have hCt : Kd.C kC w Ach (d.changes.take k1).length ((d.changes.take k1).map (encC blk)) := by
        have h9 := Kd.C_take (m := k1) (by rw [hlch]; exact hrd.2.2) (by rw [hlch]; exact hk1le)
        rw [← List.map_take, List.length_map] at h9
        exact h9
      have htl : (d.changes.take k1).length = k1 := by rw [List.length_take]; omega
      have HPLAY := Lib.hid (fun W kv2 (hm : SMap W (P + 1) kv2) (hkk : KvIs kv2 d.sure blk) (hbb : Below w.heap.size w W) => by
        have h9 := play_walk blk (d.changes.take k1) d.sure (P + 1) Ach cch W kv2 hm hkk HI.out.ok.ss (by rw [List.length_map]; exact Kd.C_below hCt hbb) (chok_take _ _ k1 HI.out.ok.chs) (by rw [htl]; unfold big; omega)
        rw [htl] at h9
        exact h9)
      have HK1E := Lib.hid hk1e
      have HR1E := Lib.hid hr1e
      have HBIW := Lib.hid hbIw
      have d4 : wr.drew.cell? ⟨kd, 4, none⟩ = some (.slice Ach d.changes.length cch) := c4
      have hkdP : some kd ≠ some P := by have := HPP.out; intro e; have := Option.some.inj e; omega
      have hkdM : some kd ≠ some (P + 1) := by have := HPP.out; intro e; have := Option.some.inj e; omega
      have hk10 : (0 : Int) ≤ (k1 : Int) := by omega
      have hk11 : (k1 : Int) ≤ (d.changes.length : Int) := by omega
      clear q0 q3 hrd hk1e hr1e hi99 hs99 hbIw hCt htl hlch
      go_wp2_with fail
      go_cut [] from 31 to 44 (fun wx => Pick wI P wx r1 ∧ MapIs wx (P + 1) (chplay d.sure (d.changes.take k1)) blk ∧ Below w.heap.size w wx ∧ P + 2 < wx.heap.size)
      case first =>
        go_region_held3 (fun w' => w'.cell? ⟨kd, 4, none⟩ = some (.slice Ach d.changes.length cch)) (first | exact c4 | exact d4 | exact cell_row (by assumption) d4 hkdP | exact cell_row (by assumption) (cell_row hg5 d4 hkdP) hkdM | assumption)
          (first | (go_at_call 45; refine (HNX.out wr.drew (HPK.out.move rfl) (pw_below_drewN HBIW.out 1)).mono ?_; rintro e w5 ⟨rfl, hp5, hg5⟩) | (go_at_call 46; refine (HPLAY.out w5 kv1 (HM1.out.of_block (hg5.block (P + 1) (by show P + 1 < wr.heap.size; omega) (by simp))) HK2.out (Below.grown (pw_below_drewN HBW.out 1) hg5 (by have := HBW.out.size; exact this) (fun k hk => by have := Option.some.inj hk; have := HPP.out; omega))).mono ?_; rintro e w6 ⟨rfl, hg6, kv6, hm6, hkv6⟩))
        go_wp2_with fail
        go_meet
        case rel =>
          have e5 : P + 2 < w5.heap.size := Nat.lt_of_lt_of_le (show P + 2 < wr.drew.heap.size from hsz) hg5.size
          exact ⟨hp5.move (hg6.block P (by omega) (by simp)), ⟨kv6, hm6, hkv6⟩, Below.grown (Below.grown (pw_below_drewN HBW.out 1) hg5 HBW.out.size (fun k hk => by have := Option.some.inj hk; have := HPP.out; omega)) hg6 (by have := HPP.out; omega) (fun k hk => by have := Option.some.inj hk; have := HPP.out; omega), Nat.lt_of_lt_of_le e5 hg6.size⟩
      case rest =>
        obtain ⟨hp7, hm7, hb7, hs7⟩ := hcut
        have hnok := HI.out.pre k1
        obtain ⟨m1, hm1⟩ : ∃ m1, chplay d.sure (d.changes.take k1) = m1 := ⟨_, rfl⟩
        rw [hm1] at hm7 hnok
        have HSO := Lib.hid (sorted_walk wc (P + 1) blk m1 hm7 hnok.srt (by have := hnok.few; omega))
        have hcr : d.crash l = d.crashFiles m1 r1 := by
          unfold Dk.crash
          rw [HK1E.out, HR1E.out, hm1]
        have HP7 := Lib.hid hp7
        have HM7 := Lib.hid hm7
        have HB7 := Lib.hid hb7
        have HNOK := Lib.hid hnok
        have HCR := Lib.hid hcr
        clear hp7 hm7 hb7 hnok hm1 hcr c4 d4 HK2 HM1
        go_wp2_with (first | (go_at_call 41; refine HSO.out.mono ?_; rintro e w8 ⟨v8, rfl, hr8, hb8⟩; obtain ⟨A8, c8, rfl⟩ := Kd.R_slice hr8; have HR8 := Lib.hid hr8; have HB8 := Lib.hid hb8; clear hr8 hb8))
        have hm64 := HNOK.out.few
        obtain ⟨N, hN⟩ : ∃ N, m1.length = N := ⟨_, rfl⟩
        rw [hN] at hm64 ⊢
        have HN := Lib.hid hN
        obtain ⟨J, hJ⟩ : ∃ J, d.crashFiles m1 r1 = J := ⟨_, rfl⟩
        have hJl : J.length = N := by rw [← hJ, crashFiles_len]; exact hN
        have hb9 : P + 2 < w8.heap.size := Nat.lt_of_lt_of_le hs7 HB8.out.size
        have hJ0 : d.crashFiles (m1.drop 0) r1 = J.drop 0 := by rw [List.drop_zero, List.drop_zero]; exact hJ
        have HJ0 := Lib.hid hJ0
        have HJL := Lib.hid hJl
        have HJ := Lib.hid hJ
        clear hN hJ hJl hJ0
        have hBw8 : Below w.heap.size w w8 := HB7.out.trans (HB8.out.mono HB7.out.size)
        have HBW8 := Lib.hid hBw8
        have HP8 := Lib.hid (HP7.out.move (HB8.out.block P (by omega)))
        clear hBw8
        go_loopw [9, 48] (fun v9 v48 wr => ∃ (i : Nat) (A9 : Option Addr) (c9 : Nat) (r : List Int), i ≤ N ∧ v48 = .int .i64 i ∧ v9 = .slice A9 i c9 ∧ Kd.R k28 28 wr w8.heap.size (fun k => w8.heap.size ≤ k) (.slice A9 i c9) ((J.map encF).take i) ∧ (∀ x ∈ r, -9223372036854775808 ≤ x ∧ x ≤ 9223372036854775807) ∧ Pick wI P wr r ∧ d.crashFiles (m1.drop i) r = J.drop i ∧ w8.grownBy wr (some P)) (fun _ v48 _ => N - (RowKit.intOf v48).toNat)
        case atStart =>
          refine ⟨0, none, 0, r1, Nat.zero_le _, rfl, rfl, Kd.R_nil _ _ _ _ _, fun x hx => HL.out x ?_, HP8.out, HJ0.out, World.grownBy.refl _ _⟩
          rw [← HR1E.out] at hx
          cases hl9 : l with
          | nil => rw [hl9] at hx; simp [nextP] at hx
          | cons a b => rw [hl9] at hx; simp only [nextP] at hx; exact List.mem_cons_of_mem _ hx
        case round =>
          obtain ⟨i, A9, c9, r, hi, rfl, rfl, hR9, hrng, hpk, hrest, hg⟩ := hrel
          have HR9 := Lib.hid hR9
          have HRNG := Lib.hid hrng
          have HPK := Lib.hid hpk
          have HREST := Lib.hid hrest
          have HG := Lib.hid hg
          have hbwr : Below w.heap.size w wr := Below.grown HBW8.out hg HBW8.out.size (fun k hk => by have := Option.some.inj hk; have := HPP.out; omega)
          have HBWR := Lib.hid hbwr
          clear hR9 hrng hpk hrest hg hbwr
          by_cases hlt : i < N
          · have hlt' : i < m1.length := by rw [HN.out]; exact hlt
            have qi0 : (0 : Int) ≤ (i : Int) := by omega
            have qi1 : (i : Int) < (N : Int) := by omega
            have hnmr := Kd.R_grown HR8.out HG.out (fun k hk e => by have := Option.some.inj e; omega)
            obtain ⟨ad, hA8, hnm⟩ := str_at (Kd.R_reads' hnmr).2.2 i (by rw [List.length_map]; exact hlt')
            subst hA8
            rw [List.getElem_map] at hnm
            have hdrop := List.drop_eq_getElem_cons hlt'
            have hmem : m1[i] ∈ m1 := List.getElem_mem hlt'
            obtain ⟨x, hx⟩ : ∃ x, m1[i] = x := ⟨_, rfl⟩
            rw [hx] at hnm hdrop hmem
            obtain ⟨n, f⟩ := x
            simp only at hnm
            have hfl := HNOK.out.lt (n, f) hmem
            have hget := (mem_aget HNOK.out.srt n f).1 hmem
            have hrest := HREST.out
            rw [hdrop] at hrest
            have hJi : i < J.length := by rw [HJL.out]; exact hlt
            rw [List.drop_eq_getElem_cons hJi] at hrest
            simp only [Dk.crashFiles, List.cons.injEq] at hrest
            obtain ⟨hJe, hJr⟩ := hrest
            have hjq : J[i]? = some J[i] := List.getElem?_eq_getElem hJi
            obtain ⟨jx, hjx⟩ : ∃ jx, J[i] = jx := ⟨_, rfl⟩
            rw [hjx] at hJe hjq
            have HJQ := Lib.hid hjq
            clear hjx hjq
            obtain ⟨vk, vu, vs, q0, q1, q2, q3⟩ := HH.out.rows hfl
            obtain ⟨Ak, ck, rfl⟩ := Kd.R_slice q1
            obtain ⟨Au, cu, rfl⟩ := Kd.R_slice q2
            obtain ⟨kl, hkl⟩ : ∃ kl, (d.file f).kept = kl := ⟨_, rfl⟩
            obtain ⟨us, hus⟩ : ∃ us, (d.file f).units = us := ⟨_, rfl⟩
            have hlk := HBD.out.kept f hfl
            have hlu := HBD.out.units f hfl
            have hfok := HI.out.ok.fl _ (file_mem hfl)
            unfold Dk.part at hJe
            rw [hkl, hus] at hJe
            rw [hus] at hJr
            rw [hkl] at q0 q1 hlk
            rw [hus, List.length_map] at q0
            rw [hus] at q2 hlu
            rw [ints_length] at q0
            have hun := hfok.1
            rw [hkl, hus] at hun
            have ck0 := pw_cell_below HBWR.out (blk_cell q0 0)
            have ck1 := pw_cell_below HBWR.out (blk_cell q0 1)
            simp at ck0 ck1
            have hqc := (Kd.R_reads' q2).2.2
            have hcu := (Kd.R_reads' q2).2.1
            have hlus : (us.map encU).length = us.length := List.length_map ..
            rw [hlus] at hqc hcu
            have HQC := Lib.hid hqc
            have HQ1 := Lib.hid (Kd.C_below (Kd.R_reads' q1).2.2 HBWR.out)
            obtain ⟨kv9, hm9, hk9⟩ := HM7.out
            have hblk9 : wr.heap[P + 1]? = wc.heap[P + 1]? := (HG.out.block (P + 1) (by omega) (by simp)).trans (HB8.out.block (P + 1) (by omega))
            have hmr := hm9.of_block hblk9
            have hz : (zeroValue 72).run Try.prog wr = .ok (.pointer none) wr := by go_simp
            have hlk9 := hmr.lookup (P := Try.prog) (T := 78) Try.underlying78 Try.underlying9 hz n false
            rw [hk9.2, hget] at hlk9
            simp only [Bool.false_eq_true, if_false, Option.map_some, Option.getD_some] at hlk9
            unfold ptr at hlk9
            have HCLN := Lib.hid (clone_walk (ints kl) Ak ck wr HQ1.out (by rw [ints_length]; omega))
            rw [ints_length] at HCLN
            obtain ⟨kk, hkk⟩ : ∃ kk, (nextP r us.length).1 = kk := ⟨_, rfl⟩
            obtain ⟨r2, hr2⟩ : ∃ r2, (nextP r us.length).2 = r2 := ⟨_, rfl⟩
            have hkle := nextP_le r us.length
            rw [hkk] at hkle hJe
            rw [hr2] at hJr
            have HNX2 := Lib.hid (fun W (hp : Pick wI P W r) (hbb : Below wI.heap.size wI W) => next_walk wI P W r hp hbb us.length (by omega) HRNG.out)
            rw [hkk, hr2] at HNX2
            have hr2m : ∀ x ∈ r2, -9223372036854775808 ≤ x ∧ x ≤ 9223372036854775807 := fun x hx => HRNG.out x (by
              rw [← hr2] at hx
              cases hr9 : r with
              | nil => rw [hr9] at hx; simp [nextP] at hx
              | cons a b => rw [hr9] at hx; simp only [nextP] at hx; exact List.mem_cons_of_mem _ hx)
            have hblkf : blk f < w.heap.size := HH.out.lt _ _ (HH.out.fl f hfl)
            have HUN := Lib.hid hun
            have HJE := Lib.hid hJe
            have HJR := Lib.hid hJr
            have HR2M := Lib.hid hr2m
            clear hqc hlus hnmr hx hdrop hmem hget hJi q0 q1 q2 q3 hkl hus hfok hm9 hk9 hblk9 hmr hz hkk hr2 hr2m hJe hJr hun
            go_upto_region 14 with (first | (go_at_call 38; refine HCLN.out.mono ?_; rintro e w10 ⟨v13, rfl, hr13, hb10⟩; obtain ⟨A13, c13, hv13, _, _⟩ := Kd.R_reads hr13; rw [ints_length] at hv13; subst hv13; have HR13 := Lib.hid hr13; have HB10 := Lib.hid hb10; clear hr13 hb10))
            have ck1b := pw_cell_below HB10.out ck1
            have m1c : w10.drew.cell? ⟨blk f, 1, none⟩ = some (.slice Au us.length cu) := ck1b
            have hneP : some (blk f) ≠ some P := by have := HPP.out; intro e; have := Option.some.inj e; omega
            have hPw10 : P < wr.heap.size := Nat.lt_of_lt_of_le (by omega) HG.out.size
            have HP10 := Lib.hid (HPK.out.move (HB10.out.block P hPw10))
            have hbI10 : Below wI.heap.size wI w10 := (HBI.out.trans (HBWR.out.mono HBI.out.size)).trans (HB10.out.mono (Nat.le_trans HBI.out.size HBWR.out.size))
            have HBI10 := Lib.hid hbI10
            obtain ⟨i90, hi90, _, hs90, _⟩ := info_parts info90
            have hslu := cut_to (P := Try.prog) 75 90 .i64 Try.underlying75 hi90 Au us.length cu (kk : Int) (by omega) (by omega) hcu
            rw [Int.toNat_natCast] at hslu
            have hkk0 : (0 : Int) ≤ (kk : Int) := by omega
            have hkk1 : (kk : Int) ≤ (us.length : Int) := by omega
            clear ck0 ck1 hbI10 hi90 hs90 hnm hlk9
            go_cut [72, 73, 74] from 61 to 74 (fun v72 v73 v74 wx => v72 = .slice Au kk cu ∧ v73 = .int .i64 kk ∧ v74 = .int .i64 0 ∧ Pick wI P wx r2 ∧ w10.grownBy wx (some P))
            case first =>
              go_region_held3 (fun w' => w'.cell? ⟨blk f, 1, none⟩ = some (.slice Au us.length cu)) (first | exact ck1b | exact m1c | exact cell_row (by assumption) m1c hneP | assumption)
                (first | (go_at_call 45; refine (HNX2.out w10.drew (HP10.out.move rfl) (pw_below_drewN HBI10.out 1)).mono ?_; rintro e w5 ⟨rfl, hp5, hg5⟩))
              go_wp2_with fail
              go_meet
              case rel => exact ⟨rfl, rfl, rfl, hp5, grown_drew hg5⟩
            case rest =>
              obtain ⟨rfl, rfl, rfl, hpx, hgx⟩ := hcut
              obtain ⟨wx, hwx⟩ : ∃ wx, wc = wx := ⟨_, rfl⟩
              subst hwx
              have hszx : wr.heap.size ≤ wc.heap.size := Nat.le_trans HB10.out.size hgx.size
              have hbwx : Below w.heap.size w wc := (HBWR.out.trans (HB10.out.mono HBWR.out.size)).grown hgx (by have := HBWR.out.size; have := HB10.out.size; omega) (fun k hk => by have := Option.some.inj hk; have := HPP.out; omega)
              have hRx : Kd.R kB 5 wc wr.heap.size (fun k => wr.heap.size ≤ k) (.slice A13 kl.length c13) (ints kl) := Kd.R_grown HR13.out hgx (fun k hk e => by have := Option.some.inj e; omega)
              have HBWX := Lib.hid hbwx
              have HRX := Lib.hid hRx
              have HPX := Lib.hid hpx
              have HGX := Lib.hid hgx
              clear hbwx hRx hpx hgx
              obtain ⟨wo, hwo⟩ : ∃ wo : World, wo = wr := ⟨_, rfl⟩
              subst hwo
              go_wp2_with fail
              go_loopw [13, 74] (fun v13 v74 wr => ∃ (j : Nat) (A3 : Option Addr) (c3 : Nat), j ≤ kk ∧ v74 = .int .i64 j ∧ v13 = .slice A3 (unplay kl (us.take j)).length c3 ∧ Kd.R kB 5 wr wo.heap.size (fun k => wo.heap.size ≤ k) (.slice A3 (unplay kl (us.take j)).length c3) (ints (unplay kl (us.take j))) ∧ Below wo.heap.size wc wr) (fun _ v74 _ => kk - (RowKit.intOf v74).toNat)
              case atStart => exact ⟨0, A13, c13, Nat.zero_le _, rfl, rfl, HRX.out, Below.refl _ _⟩
              case round =>
                obtain ⟨j, A3, c3, hj, rfl, rfl, hR3, hby⟩ := hrel
                have hbwy : Below w.heap.size w wr := HBWX.out.trans (hby.mono HBWR.out.size)
                have hul := unplay_len (us.take j) kl
                rw [List.length_take] at hul
                have hjl := Nat.min_le_left j us.length
                by_cases hjk : j < kk
                · have hju : j < us.length := by omega
                  have hat := at_U (by have h9 := Kd.C_below HQC.out hbwy; rw [← List.length_map (f := encU)] at h9; exact h9) j (by rw [List.length_map]; exact hju)
                  obtain ⟨au, hAu, u0, u1, u2⟩ := hat
                  subst hAu
                  rw [List.getElem_map] at u0 u1 u2
                  have hsuc := unplay_succ kl us j hju
                  have huok := unok_at us kl j hju HUN.out
                  obtain ⟨u, hu⟩ : ∃ u, us[j] = u := ⟨_, rfl⟩
                  rw [hu] at u0 u1 u2 hsuc huok
                  obtain ⟨bb, hbb⟩ : ∃ bb, unplay kl (us.take j) = bb := ⟨_, rfl⟩
                  rw [hbb] at hR3 hsuc huok hul ⊢
                  have HR3 := Lib.hid hR3
                  have HBY := Lib.hid hby
                  have HSUC := Lib.hid hsuc
                  have hj0 : (0 : Int) ≤ (j : Int) := by omega
                  have hj1 : (j : Int) < (kk : Int) := by omega
                  clear hR3 hby hsuc hu hbb hbwy
                  cases u with
                  | cut q =>
                    have hq : q ≤ bb.length := huok
                    replace u0 : wr.cell? (au.add (j * 3)) = some (.bool true) := u0
                    replace u1 : wr.cell? ⟨(au.add (j * 3)).block, (au.add (j * 3)).off + 1, none⟩ = some (.int .u8 0) := u1
                    replace u2 : wr.cell? ⟨(au.add (j * 3)).block, (au.add (j * 3)).off + 2, none⟩ = some (.int .i64 (q : Int)) := u2
                    obtain ⟨i5, hi5, _, hs5, _⟩ := info_parts info5
                    have hc3 := (Kd.R_reads' HR3.out).2.1
                    have hslb := cut_to (P := Try.prog) 26 5 .i64 Try.underlying26 hi5 A3 bb.length c3 (q : Int) (by omega) (by omega) hc3
                    rw [Int.toNat_natCast] at hslb
                    have hq0 : (0 : Int) ≤ (q : Int) := by omega
                    have hq1 : (q : Int) ≤ (bb.length : Int) := by omega
                    clear hi5 hs5 hc3 huok
                    go_wp2_with fail
                    go_roundw
                    case rel =>
                      have h9 := Kd.R_take (Kd.R_below HR3.out (below_alloc (Below.refl wr.heap.size wr) (.cells #[.bool true, .int .u8 0, .int .i64 (q : Int)] 90))) (m := q) (by rw [ints_length]; exact hq)
                      have e9 : (ints bb).take q = ints (bb.take q) := by simp [ints, List.map_take]
                      rw [e9] at h9
                      refine ⟨j + 1, A3, c3, by omega, by go_num, ?_, ?_, HBY.out.trans ((below_alloc (Below.refl wr.heap.size wr) _).mono (Nat.le_trans hszx HBY.out.size))⟩
                      · rw [HSUC.out]
                        show _ = Value.slice A3 (bb.take q).length c3
                        rw [List.length_take, Nat.min_eq_left hq]
                      · rw [HSUC.out]
                        show Kd.R kB 5 _ _ _ (.slice A3 (bb.take q).length c3) (ints (bb.take q))
                        rw [List.length_take, Nat.min_eq_left hq]
                        exact h9
                    case measure => simp [RowKit.intOf]; omega
                  | add x =>
                    replace u0 : wr.cell? (au.add (j * 3)) = some (.bool false) := u0
                    replace u1 : wr.cell? ⟨(au.add (j * 3)).block, (au.add (j * 3)).off + 1, none⟩ = some (.int .u8 (x.toNat : Int)) := u1
                    replace u2 : wr.cell? ⟨(au.add (j * 3)).block, (au.add (j * 3)).off + 2, none⟩ = some (.int .i64 0) := u2
                    clear huok
                    go_upto_region 17 with (fail)
                    obtain ⟨wb, hwb⟩ : ∃ wb, wr.alloc (.cells #[.bool false, .int .u8 (x.toNat : Int), .int .i64 0] 90) = wb := ⟨_, rfl⟩
                    obtain ⟨kb, hkb⟩ : ∃ kb, wr.heap.size = kb := ⟨_, rfl⟩
                    have hbb2 : Below wr.heap.size wr wb := hwb ▸ below_alloc (Below.refl _ _) _
                    have hnb : wb.heap[kb]? = some (.cells #[.bool false, .int .u8 (x.toNat : Int), .int .i64 0] 90 (0, 0)) := by rw [← hwb, ← hkb]; exact blk_new wr _
                    rw [hwb, hkb]
                    have n0 := blk_cell hnb 0
                    have n1 := blk_cell hnb 1
                    simp at n0 n1
                    have hRb := Kd.R_below HR3.out hbb2
                    have hbyb : Below wo.heap.size wc wb := HBY.out.trans (hbb2.mono (Nat.le_trans hszx HBY.out.size))
                    have hszb : wo.heap.size ≤ wb.heap.size := Nat.le_trans hszx hbyb.size
                    have HRB := Lib.hid hRb
                    have HBYB := Lib.hid hbyb
                    have hbl : (ints bb).length ≤ 3000000000 := by rw [ints_length]; omega
                    clear hwb hkb hbb2 hnb hRb hbyb
                    have hil := ints_length bb
                    have HIL := Lib.hid hil
                    clear hil
                    go_wp2_with (first | (at_builtin; refine Kd.R_append kB (W := wb) (w0 := wc) wo.heap.size rfl (.tmp 84) (.tmp 87) 26 5 (.int .u8 0) 1 rfl Try.underlying26 info5 rfl (by decide) (by decide) (.slice A3 bb.length c3) (ints bb) (x.toNat : Int) [.int .u8 (x.toNat : Int)] (fun k => wo.heap.size ≤ k) (fun _ => False) rfl rfl rfl (fun _ hk => hk.elim) (fun k hk => Nat.le_trans hszb hk) HRB.out HBYB.out hszb (by omega) ?_; intro v9' w9' hr9' hb9' hg9' hat9'; obtain ⟨A2, c2, hv9, _, _⟩ := Kd.R_reads hr9'; rw [List.length_append, HIL.out] at hv9; subst hv9; have HR9' := Lib.hid hr9'; have HB9' := Lib.hid hb9'; clear hr9' hb9' hg9' hat9'))
                    go_roundw
                    case rel =>
                      have e9 : ints (bb ++ [x]) = ints bb ++ [(x.toNat : Int)] := by simp [ints]
                      refine ⟨j + 1, A2, c2, by omega, by go_num, ?_, ?_, HB9'.out⟩
                      · rw [HSUC.out]
                        show _ = Value.slice A2 (bb ++ [x]).length c2
                        rw [List.length_append]; rfl
                      · rw [HSUC.out]
                        show Kd.R kB 5 _ _ _ (.slice A2 (bb ++ [x]).length c2) (ints (bb ++ [x]))
                        rw [e9, List.length_append]
                        exact HR9'.out
                    case measure => simp [RowKit.intOf]; omega
                · have hjk2 : j = kk := by omega
                  have hjk3 : ¬ (j : Int) < (kk : Int) := by omega
                  subst hjk2
                  have hje := HJE.out
                  obtain ⟨bb, hbb⟩ : ∃ bb, unplay kl (us.take j) = bb := ⟨_, rfl⟩
                  rw [hbb] at hR3 hje hul ⊢
                  have hsz0 : w8.heap.size ≤ wo.heap.size := HG.out.size
                  have hR9 : Kd.R k28 28 wr w8.heap.size (fun k => w8.heap.size ≤ k) (.slice A9 i c9) ((J.map encF).take i) := Kd.R_step HR9.out (fun k hk hlt => ((hby.block k hlt).trans (HGX.out.block k (Nat.lt_of_lt_of_le hlt HB10.out.size) (fun e => by have := Option.some.inj e; omega))).trans (HB10.out.block k hlt))
                  have htk : ((J.map encF).take i).length = i := by rw [List.length_take, List.length_map, HJL.out]; omega
                  have hchain : w8.grownBy wr (some P) := ⟨hby.os.trans (HGX.out.os.trans (HB10.out.os.trans HG.out.os)), hby.tape.trans (HGX.out.tape.trans (HB10.out.tape.trans HG.out.tape)), hby.output.trans (HGX.out.output.trans (HB10.out.output.trans HG.out.output)), by have := HB10.out.size; have := hby.size; omega,
                    fun k hk hne => ((hby.block k (by omega)).trans (HGX.out.block k (Nat.lt_of_lt_of_le (by omega) HB10.out.size) hne)).trans ((HB10.out.block k (by omega)).trans (HG.out.block k hk hne))⟩
                  have hPr : Pick wI P wr r2 := HPX.out.move (hby.block P (by omega))
                  have hszr : wo.heap.size ≤ wr.heap.size := Nat.le_trans hszx hby.size
                  have HR9N := Lib.hid hR9
                  have HR3 := Lib.hid hR3
                  have HTK := Lib.hid htk
                  have HCH := Lib.hid hchain
                  have HPR := Lib.hid hPr
                  have HJX := Lib.hid hje
                  have HIL := Lib.hid (ints_length bb)
                  have hil3 := (Kd.R_reads' HR3.out).2.1
                  clear hR9 hR3 htk hchain hPr hje hby hbwy hbb
                  go_wp2_with (first | (at_builtin; refine Kd.R_append k28 (W := wr) (w0 := wr) w8.heap.size rfl (.tmp 90) (.tmp 94) 22 28 (.agg #[.string ⟨#[]⟩, .slice none 0 0]) 40 rfl Try.underlying22 info28 rfl (by decide) (by decide) (.slice A9 i c9) ((J.map encF).take i) ⟨n, ints bb⟩ [.string n, .slice A3 bb.length c3] (fun k => w8.heap.size ≤ k) (fun k => wo.heap.size ≤ k) rfl rfl (k28_mkM wr _ _ ⟨n, ints bb⟩ (Kd.R_lower HR3.out hsz0)) (fun k hk => ⟨Nat.le_trans hsz0 hk, fun e => by have h9 := (R_own_lt HR9.out k e.symm).2.2; omega⟩) (fun k hk => by omega) HR9N.out (Below.refl _ _) (by omega) (by rw [HTK.out]; omega) ?_; intro v9' w9' hr9' hb9' hg9' hat9'; obtain ⟨A2, c2, hv9, _, _⟩ := Kd.R_reads hr9'; rw [List.length_append, HTK.out, List.length_singleton] at hv9; subst hv9; have HR9' := Lib.hid hr9'; have HG9' := Lib.hid hg9'; clear hr9' hb9' hg9' hat9'))
                  go_roundw
                  case rel =>
                    have e9 : (J.map encF).take (i + 1) = (J.map encF).take i ++ [⟨n, ints bb⟩] := by
                      rw [List.take_add_one, List.getElem?_map, HJQ.out, ← HJX.out]; rfl
                    have hown : ∀ k, (Value.slice A9 i c9).ownBlock = some k → w8.heap.size ≤ k := fun k hk => (R_own_lt HR9.out k hk).1
                    refine ⟨i + 1, A2, c2, r2, by omega, by go_num, rfl, by rw [e9]; exact HR9'.out, HR2M.out, HPR.out.move (HG9'.out.block P (by omega) (fun e => by have := hown P e.symm; omega)), HJR.out, ?_⟩
                    exact ⟨HG9'.out.os.trans HCH.out.os, HG9'.out.tape.trans HCH.out.tape, HG9'.out.output.trans HCH.out.output, Nat.le_trans HCH.out.size HG9'.out.size, fun k hk hne => (HG9'.out.block k (Nat.lt_of_lt_of_le hk HCH.out.size) (fun e => by have := hown k e.symm; omega)).trans (HCH.out.block k hk hne)⟩
                  case measure => simp [RowKit.intOf]; omega
          · have hib : i = N := by omega
            have qi1 : ¬ (i : Int) < (N : Int) := by omega
            go_wp2_with fail
            go_ret
            refine ⟨_, rfl, ?_, HBWR.out⟩
            have h9 := HR9.out
            rw [List.take_of_length_le (by rw [List.length_map, HJL.out]; omega), hib] at h9
            rw [HCR.out, HJ.out]
            exact Kd.R_lower (Kd.R_mono h9 (fun k hk => Nat.le_trans HBW8.out.size hk)) HBW8.out.size
    · obtain ⟨y, rest', hry, hxy, hlp'⟩ := perm_step hlp hpx
      obtain ⟨n, f⟩ := y
      have hdp' : (done ++ [(n, f)] ++ rest').Perm d.sure := by
        refine List.Perm.trans ?_ hdp
        rw [List.append_assoc]
        exact (hry.symm.append_left done)
      have hB2 := below_setBlock (o := o1) (below_either hbw hw1) (by have := HPP.out; omega : w.heap.size ≤ P + 2)
      have hent := run_entry (P := Try.prog) x hcur
      subst hxy
      replace hent : (Instr.entry (.pointer (some ⟨P + 2, 0, none⟩))).run Try.prog (setBlock w1 (P + 2) o1) = .ok (.tuple #[.string n, .pointer (some ⟨blk f, 0, none⟩)]) (setBlock w1 (P + 2) o1) := hent
      replace hnx : (Instr.next (.pointer (some ⟨P + 2, 0, none⟩)) false 0).run Try.prog wr = .ok (.tuple #[.bool true, .string n, .pointer (some ⟨blk f, 0, none⟩)]) (setBlock w1 (P + 2) o1) := hnx
      have hsame : ∀ k, k ≠ P + 2 → (setBlock w1 (P + 2) o1).heap[k]? = wr.heap[k]? := fun k hk => (set_other hk).trans (by rcases hw1 with rfl | rfl <;> rfl)
      have hsz2 : P + 2 < (setBlock w1 (P + 2) o1).heap.size := by
        unfold setBlock; simp
        rcases hw1 with rfl | rfl
        · exact hsz
        · exact hsz
      obtain ⟨kv1, m1, hm1, hs1, hk1, hmem⟩ := hcp
      have hm2 := hm1.of_block (hsame (P + 1) (by omega))
      have hpk2 := hpk.move (hsame P (by omega))
      obtain ⟨W2, hW2⟩ : ∃ W2, setBlock w1 (P + 2) o1 = W2 := ⟨_, rfl⟩
      rw [hW2] at hnx hent hB2 hrg1 hsz2 hm2 hpk2
      have hkp := hk1.put n f
      have hnotin : ∀ z ∈ done, z.1 ≠ n := fun z hz e => by
        have hnd := srt_nodup HI.out.ok.ss
        have hp2 := (hdp'.map (·.1)).nodup_iff.2 hnd
        rw [List.map_append, List.map_append, List.append_assoc] at hp2
        have := (List.nodup_append.1 hp2).2.2 z.1 (List.mem_map_of_mem hz) n (by simp)
        exact this e
      have hmem2 : ∀ x, x ∈ aput m1 n f ↔ x ∈ done ++ [(n, f)] := fun x => by
        rw [mem_put_iff hs1, List.mem_append, List.mem_singleton, hmem]
        constructor
        · rintro (h | ⟨h, _⟩)
          · exact .inr h
          · exact .inl h
        · rintro (h | h)
          · exact .inr ⟨h, hnotin x h⟩
          · exact .inl h
      have HM2 := Lib.hid hm2
      have HKP := Lib.hid hkp
      have HMEM := Lib.hid hmem2
      have HS1 := Lib.hid (srt_put hs1 n f)
      have HB2 := Lib.hid hB2
      have HRG1 := Lib.hid hrg1
      have HDP := Lib.hid hdp'
      have HLP := Lib.hid hlp'
      have HPK2 := Lib.hid hpk2
      have hlen := hry.length_eq
      rw [List.length_cons] at hlen
      obtain ⟨g', rfl⟩ : ∃ g', gk = g' + 1 := ⟨gk - 1, by omega⟩
      clear hW2 hB2 hrg1 hdp' hlp' hw1 hcur hpx hlp hdp hrg hbw hry hm1 hs1 hk1 hmem hm2 hkp hnotin hmem2 hsame hpk hpk2
      go_wp2_with (at_mapUpdate; refine wpList_put (kv := kv1) HM2.out rfl _ _ _ 78 rfl Try.underlying78 Try.underlying9 rfl _ _ rfl rfl ?_; intro w2 hs2 hg2; have HS2 := Lib.hid hs2; have HG2 := Lib.hid hg2; clear hs2 hg2)
      go_roundg g'
      case measure => omega
      case rel =>
        have hg := HG2.out
        refine ⟨left', rest', done ++ [(n, f)], by omega, HLP.out, HDP.out, ⟨_, _, HS2.out, HS1.out, HKP.out, HMEM.out⟩, HPK2.out.move (hg.block P (by omega) (by simp)), Below.grown HB2.out hg (by have := HPP.out; omega) (fun k hk => by have := Option.some.inj hk; have := HPP.out; omega), by have := hg.size; omega, HRG1.out.move (hg.block ks (by have := HPP.out; omega) (by simp; have := HPP.out; omega)) (hg.block _ (by omega) (by simp))⟩
end Go.Proofs.Ytonecajkfbdnmaa.Dk
