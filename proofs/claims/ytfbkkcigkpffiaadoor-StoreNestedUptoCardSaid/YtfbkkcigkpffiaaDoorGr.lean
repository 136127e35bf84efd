/- The walk of Ids: all ids of a store, sorted. -/
import Derived.Test.YtfbkkcigkpffiaaDoorGq
import Derived.Test.YtfbkkcigkpffiaaDoorShelf
namespace Go.Proofs.YtfbkkcigkpffiaaDoor.St
open Go Go.Lib Go.RowKit Go.ChangeMaps Go.Proofs.YtfbkkcigkpffiaaDoorW.PrintWords Go.Proofs.YtfbkkcigkpffiaaDoorW.PrintLast Go.Proofs.YtfbkkcigkpffiaaDoorW.PrintMore Go.Proofs.YtfbkkcigkpffiaaDoor.PStoreMany Go.Sort
set_option linter.unusedVariables false
set_option linter.unusedSimpArgs false
/-- What SortFunc leaves. -/
theorem sort_walk (L : List By) (g cap B : Nat) (w0 w : World) (hok : ∀ x ∈ L, x.length = 32) (hR : RowI w g L) (hg : g < w.heap.size) (hb : Below B w0 w) (hB : B ≤ g) (hl : L.length ≤ 4000000000) :
    Calls Tryd.prog 36 #[.slice (some ⟨g, 0, none⟩) L.length cap, .func (.func 37) #[] #[]] w fun e w' => ∃ D, e = .returned (.tuple #[]) ∧ D.Perm L ∧ Sorted D ∧ RowI w' g D ∧ Below B w0 w' ∧ g < w'.heap.size := by
  have eg : ∀ args w, (callFunc 37 args).run Tryd.prog w = .ok (.enter 37 args) w := enters_of Tryd.func37 (by kernel_rfl) rfl
  have hH := holdsK_of_row hok hR
  have hcon := AnyQ.slices_SortFunc Tryd.sortId 32 Tryd.isAgg33 Tryd.sizeOf33 encI encI_len encI_one cfI swoI 37 #[] g 0 cap (oArr L hok) w eg (cmpLaysI g _ w) hH hg (by rw [oArr_size]; omega)
  rw [oArr_size] at hcon
  refine Calls.mono hcon ?_
  rintro e w' ⟨rfl, d', n, os, hp, hs, rfl⟩
  have hsz : d'.size = L.length := by rw [hp.1, oArr_size]
  have hperm : (d'.toList.map (·.1)).Perm L := by
    have h := hp.2.2
    rw [← oArr_size L hok] at h
    rw [Array.extract_size] at h
    rw [show (oArr L hok).size = d'.size by rw [hp.1], Array.extract_size] at h
    have h2 := h.map (fun x : OId => x.1)
    rwa [oArr_map] at h2
  refine ⟨d'.toList.map (·.1), rfl, hperm, ?_, ?_, hb.trans (below_sortWorld w g n B d' os hB (by omega)), ?_⟩
  · unfold Sorted
    rw [List.pairwise_map, List.pairwise_iff_getElem]
    intro i j hi hj hij
    have hi' : i < d'.size := by simpa using hi
    have hj' : j < d'.size := by simpa using hj
    have h := hs i j (Nat.zero_le _) hij (by omega)
    rw [getElem!_pos d' i hi', getElem!_pos d' j hj', ltI_false] at h
    simpa using h
  · exact row_of_holdsK d' (holdsK_sortWorldK encI 32 w g 0 n (oArr L hok) d' os hg hH (by rw [hsz, oArr_size]))
  · simp only [sortWorldK, size_grow, size_putRowK]
    show g < w.heap.size + _
    omega
theorem fill_from : ∀ (l : List Value) (p : List Value) (z : Array Value), p.length + l.length = z.size → z.toList.take p.length = p → (l.zipIdx p.length).foldl (fun cs x => cs.setIfInBounds x.snd x.fst) z = (p ++ l).toArray
  | [], p, z, hs, hp => by
    apply Array.ext'
    rw [List.append_nil]
    show z.toList = p
    rw [← hp, List.take_of_length_le]
    simp at hs ⊢
    omega
  | v :: l, p, z, hs, hp => by
    rw [List.zipIdx_cons, List.foldl_cons]
    have hpz : p.length < z.size := by simp at hs; omega
    have h := fill_from l (p ++ [v]) (z.setIfInBounds p.length v) (by simp at hs ⊢; omega) (by
      rw [List.length_append, Array.toList_setIfInBounds]
      apply List.ext_getElem?
      intro j
      rw [List.getElem?_take]
      by_cases hj : j < p.length
      · rw [if_pos (by simp; omega), List.getElem?_set_ne (by omega), List.getElem?_append_left hj]
        have h9 : (z.toList.take p.length)[j]? = z.toList[j]? := by rw [List.getElem?_take, if_pos hj]
        rw [hp] at h9
        exact h9.symm
      · by_cases e : j = p.length
        · subst e
          rw [if_pos (by simp), List.getElem?_set_self (by simpa using hpz), List.getElem?_append_right (Nat.le_refl _)]
          simp
        · rw [if_neg (by simp; omega), List.getElem?_eq_none (by simp; omega)])
    simp only [List.length_append, List.length_singleton] at h
    rw [h]
    simp
theorem fill_cells (z : Array Value) (l : List Value) (h : l.length = z.size) : l.zipIdx.foldl (fun cs x => cs.setIfInBounds x.snd x.fst) z = l.toArray := by
  have := fill_from l [] z (by simpa using h) rfl
  simpa using this
theorem slice_own {v : Value} {A : Option Addr} {n c b : Nat} (h : v = .slice A n c) (hb : v.ownBlock = some b) : ∃ ad, A = some ad := by
  subst h
  cases A with
  | none => simp [Value.ownBlock] at hb
  | some ad => exact ⟨ad, rfl⟩
theorem own_some {a b : Value} {n : Nat} (h : b.ownBlock = a.ownBlock ∨ ∃ k, b.ownBlock = some k ∧ n ≤ k) {q : Nat} (ha : a.ownBlock = some q) : ∃ q, b.ownBlock = some q := by
  rcases h with h | ⟨k, h, _⟩
  · exact ⟨q, h.trans ha⟩
  · exact ⟨k, h⟩
theorem keys_of : ∀ {w : World} {kv : KV} {its : Its}, Same w kv its → kv.map (·.1) = its.map (·.1)
  | _, [], [], _ => rfl
  | _, (a, v) :: r, (d, b) :: s, h => by
    obtain ⟨rfl, _, h2⟩ := h
    rw [List.map_cons, List.map_cons, keys_of h2]
  | _, [], _ :: _, h => h.elim
  | _, _ :: _, [], h => h.elim
theorem below_setBlock {B r : Nat} {w w1 : World} {o : Obj} (h : Below B w w1) (hr : B ≤ r) : Below B w (setBlock w1 r o) :=
  ⟨h.os, h.tape, h.output, by unfold setBlock; simp; exact h.size, fun k hk => (set_other (by omega)).trans (h.block k hk)⟩
theorem below_either {B : Nat} {w w0 w1 : World} (h : Below B w w0) (hw : w1 = w0 ∨ w1 = w0.drew) : Below B w w1 := by
  rcases hw with rfl | rfl
  · exact h
  · exact pw_below_drewN h 1
theorem setCell_zero33 (w : World) (r : Nat) (x : By) (hx : x.length = 32) (hr : Blk w r 33 (noughts 32)) : Blk (w.setCells r 0 (cl x)) r 33 (cl x) := by
  have h9 := Blk.setCells (cl x) 0 w _ hr
  rwa [sets_all _ _ (by rw [List.length_map, hx]; rfl)] at h9
set_option maxRecDepth 100000 in
set_option maxHeartbeats 4000000 in
theorem ids_walk (ks km : Nat) (its : Its) (w : World) (h : StoreAt w ks km its) (hl : its.length ≤ 1000000000) :
    Calls Tryd.prog 18 #[.pointer (some ⟨ks, 0, none⟩)] w fun e w' => ∃ g cap D, e = .returned (.slice (some ⟨g, 0, none⟩) D.length cap) ∧ D.Perm (its.map (·.1)) ∧ Sorted D ∧ (∀ x ∈ D, x.length = 32) ∧ RowI w' g D ∧ w.heap.size ≤ g ∧ g < w'.heap.size ∧ D.length ≤ cap ∧ Below w.heap.size w w' := by
  have c0 : w.cell? ⟨ks, 0, none⟩ = some (.map (some km)) := h.blk.cell 0
  obtain ⟨kv, hm, hs⟩ := h.map
  have hln := run_mlen hm 3
  have HKV := Lib.hid (keys_of hs)
  have hkl : kv.length = its.length := hs.len
  rw [hkl] at hln
  have HKL := Lib.hid hkl
  obtain ⟨N, hN⟩ : ∃ N, its.length = N := ⟨_, rfl⟩
  rw [hN] at hln hl HKL
  obtain ⟨i33, hi33, hz33, hs33, hby33⟩ := info_parts info33
  have hms := run_make (P := Tryd.prog) (w := w) 44 33 i33 _ Tryd.underlying44 hi33 hz33 .i64 .i64 0 (N : Int) (by omega) (by omega) (by rw [hby33]; omega) (by omega)
  rw [show Int.toNat 0 = 0 from rfl, Int.toNat_natCast, hs33] at hms
  obtain ⟨cur, hcur⟩ : ∃ cur, madeCells (Value.agg (noughts 32).toArray).cells (N * kI.sz) = cur := ⟨_, rfl⟩
  have hcs : cur.size = N * kI.sz := by rw [← hcur]; simp [madeCells]
  rw [hcur] at hms
  obtain ⟨w1, hw1⟩ : ∃ w1, w.alloc (.cells cur 33) = w1 := ⟨_, rfl⟩
  have HB1 := Lib.hid (show Below w.heap.size w w1 from hw1 ▸ below_alloc (Below.refl _ _) _)
  have HR1 := Lib.hid (show Kd.R kI 33 w1 w.heap.size (fun k => w.heap.size ≤ k) (.slice (some ⟨w.heap.size, 0, none⟩) 0 N) [] from ⟨fun k hk => by
    have : w.heap.size = k := by simpa [Value.ownBlock] using hk
    omega, [], hw1 ▸ World.ownsRow_made w cur N (Nat.le_refl _) (by unfold maxLen; omega) hcs, ⟨by simp, fun j p h => by simp at h⟩⟩)
  have HSZ1 := Lib.hid (show w1.heap.size = w.heap.size + 1 from by rw [← hw1]; simp)
  have hm1 := hm.below HB1.out
  obtain ⟨o, hrun, hrng⟩ := run_range (P := Tryd.prog) kv hm1 Tryd.underlying70
  have c1 : w1.cell? ⟨ks, 0, none⟩ = some (.map (some km)) := pw_cell_below HB1.out c0
  have HRNG := Lib.hid hrng
  have HM := Lib.hid hm
  have HKM := Lib.hid (show km < w.heap.size from hm.lt)
  have HK32 := Lib.hid (show ∀ x ∈ kv, x.1.length = 32 from by obtain ⟨es, ck, _, _, _, _, h32⟩ := hm; exact h32)
  have HW1 := Lib.hid hw1
  rw [hw1] at hms
  clear h hm hs hrng hm1 hkl hN hi33 hz33 hs33 hby33 hcur hcs hw1
  go_enter Tryd.func18, Tryd.ntmps18
  go_upto_region 2 with (fail)
  clear c0 hln hms
  go_wp2_with fail
  go_loopg [3] N (fun gf v3 wr => ∃ (left : KV) (done : List By) (ad : Addr) (c : Nat), v3 = .slice (some ad) done.length c ∧ left.length ≤ gf ∧ (done ++ left.map (·.1)).Perm (kv.map (·.1)) ∧ Kd.R kI 33 wr w.heap.size (fun k => w.heap.size ≤ k ∧ k ≠ w1.heap.size) (.slice (some ad) done.length c) done ∧ Below w.heap.size w wr ∧ w1.heap.size < wr.heap.size ∧ Rng wr km w1.heap.size left)
  case atStart => exact ⟨kv, [], ⟨w.heap.size, 0, none⟩, N, rfl, by rw [HKL.out]; exact Nat.le_refl _, List.Perm.refl _, Kd.R_step (Kd.R_mono (Kd.R_bound HR1.out) (fun k hk => ⟨hk.1, by have := hk.2.2.1; omega⟩)) (fun k hk hlt => heap_alloc_old _ _ hlt), HB1.out.trans (below_alloc (Below.refl _ _) _ |>.mono HB1.out.size), by simp, HRNG.out⟩
  case round =>
    obtain ⟨left, done, ad, c, rfl, hgf, hdp, hR, hbw, hsz, hrg⟩ := hrel
    have hne : km ≠ w1.heap.size := by have := HKM.out; have := HSZ1.out; omega
    have hw1s : w.heap.size ≤ w1.heap.size := HB1.out.size
    rcases run_next (P := Tryd.prog) left hrg hne 0 with ⟨rfl, hnx⟩ | ⟨x, left', w2, o1, hpx, hw2, hnx, hrg1, hcur⟩
    · rw [List.map_nil, List.append_nil] at hdp
      have hlens := R_lens hR
      obtain ⟨g, cap, hsl, hg, hgl, hcap, hrow⟩ := R_rowI hR rfl
      obtain ⟨rfl, rfl⟩ : ad = ⟨g, 0, none⟩ ∧ c = cap := by
        injection hsl with h1 _ h3
        injection h1 with h1
        exact ⟨h1, h3⟩
      have hdl : done.length ≤ 1000000000 := by
        have h1 := hdp.length_eq
        have h2 := HKL.out
        rw [List.length_map] at h1
        omega
      have HSW := Lib.hid (sort_walk done g c w.heap.size w wr hlens hrow hgl hbw hg (by omega))
      have HDP := Lib.hid hdp
      have HLS := Lib.hid hlens
      have HG := Lib.hid hg
      have HCP := Lib.hid hcap
      obtain ⟨n, hn⟩ : ∃ n, done.length = n := ⟨_, rfl⟩
      have HN := Lib.hid hn
      rw [hn] at HSW ⊢
      clear hdp hlens hsl hg hgl hcap hrow hdl hn hR hbw hrg hgf
      go_wp2_with fail
      refine HSW.out.mono ?_
      rintro e w9 ⟨D, rfl, hperm, hsort, hrow9, hb9, hg9⟩
      have HP := Lib.hid hperm
      have HSO := Lib.hid hsort
      have HR9 := Lib.hid hrow9
      have HB9 := Lib.hid hb9
      have HG9 := Lib.hid hg9
      clear hperm hsort hrow9 hb9 hg9
      go_wp2_with fail
      go_ret
      have hDn : D.length = n := by rw [HP.out.length_eq, HN.out]
      refine ⟨g, c, D, by rw [hDn]; rfl, ?_, HSO.out, fun x hx => HLS.out x (HP.out.subset hx), HR9.out, HG.out, HG9.out, by rw [hDn, ← HN.out]; exact HCP.out, HB9.out⟩
      exact (HP.out.trans HDP.out).trans (by rw [HKV.out])
    · obtain ⟨d, v⟩ := x
      have hdp' : ((done ++ [d]) ++ left'.map (·.1)).Perm (kv.map (·.1)) := by
        refine List.Perm.trans ?_ hdp
        rw [List.append_assoc]
        exact ((hpx.map (·.1)).symm.append_left done)
      have HDL := Lib.hid (show d.length = 32 from by
        have hmem : d ∈ kv.map (·.1) := hdp'.subset (by simp)
        obtain ⟨y, hy, rfl⟩ := List.mem_map.1 hmem
        exact HK32.out y hy)
      have hdl : done.length + 1 ≤ 1000000000 := by
        have h1 := hdp'.length_eq
        have h2 := HKL.out
        rw [List.length_append, List.length_append, List.length_map, List.length_map, List.length_singleton] at h1
        omega
      have hB2 := below_setBlock (o := o1) (below_either hbw hw2) hw1s
      have hent := run_entry (P := Tryd.prog) (d, v) hcur
      have hR2 : Kd.R kI 33 (setBlock w2 w1.heap.size o1) w.heap.size (fun k => w.heap.size ≤ k ∧ k ≠ w1.heap.size) (.slice (some ad) done.length c) done :=
        Kd.R_step hR (fun k hk _ => (set_other hk.2).trans (by rcases hw2 with rfl | rfl <;> rfl))
      have hsz2 : w1.heap.size < (setBlock w2 w1.heap.size o1).heap.size := by
        unfold setBlock; simp
        rcases hw2 with rfl | rfl
        · exact hsz
        · exact hsz
      obtain ⟨W2, hW2⟩ : ∃ W2, setBlock w2 w1.heap.size o1 = W2 := ⟨_, rfl⟩
      rw [hW2] at hnx hent hB2 hrg1 hsz2 hR2
      replace hent : (Instr.entry (.pointer (some ⟨w1.heap.size, 0, none⟩))).run Tryd.prog W2 = .ok (.tuple #[vId d, v]) W2 := hent
      replace hnx : (Instr.next (.pointer (some ⟨w1.heap.size, 0, none⟩)) false 0).run Tryd.prog wr = .ok (.tuple #[.bool true, vId d, v]) W2 := hnx
      have HDP := Lib.hid hdp'
      have HB2 := Lib.hid hB2
      have HRG := Lib.hid hrg1
      have HR2 := Lib.hid hR2
      have HSZ2 := Lib.hid hsz2
      have hll := hpx.length_eq
      rw [List.length_cons] at hll
      have HLL := Lib.hid hll
      have HGF := Lib.hid hgf
      have HNE := Lib.hid hne
      obtain ⟨w3, hw3⟩ : ∃ w3, W2.alloc (.cells (noughts 32).toArray 33) = w3 := ⟨_, rfl⟩
      have HW3 := Lib.hid hw3
      have HI3 := Lib.hid (show Blk w3 W2.heap.size 33 (noughts 32) from hw3 ▸ Blk.new W2 33 (noughts 32))
      have HB3 := Lib.hid (show Below W2.heap.size W2 w3 from hw3 ▸ below_alloc (Below.refl _ _) _)
      have HTH := Lib.hid (HI3.out.there 0 (cl d).toArray.size (by rw [List.size_toArray, List.length_map, HDL.out]; simp))
      have HSZ := Lib.hid (size33' HDL.out)
      have HON := Lib.hid (one33 d)
      have HI4 := Lib.hid (setCell_zero33 w3 _ d HDL.out HI3.out)
      have HB4 := Lib.hid (show Below W2.heap.size W2 (w3.setCells W2.heap.size 0 (cl d)) from (But.setCells (k := W2.heap.size) (cl d) 0 w3 (But.of_below HB3.out)).new (Nat.le_refl _))
      obtain ⟨b2, hb2⟩ : ∃ b2, W2.heap.size = b2 := ⟨_, rfl⟩
      have HB2S := Lib.hid hb2
      clear hW2 hw3 hdp' hB2 hrg1 hR2 hsz2 hll hgf hne hcur hpx hdp hR hbw hsz hrg hw2 hb2
      go_upto_region 5 with (first | ((change wpList _ _ _ _ _ (W2.alloc (.cells (noughts 32).toArray 33))); rw [HW3.out]; refine wpList_store_mid rfl 33 (.tmp 4) (.tmp 19) rfl W2.heap.size 0 (cl d).toArray rfl rfl HTH.out HSZ.out HON.out ?_))
      obtain ⟨w4, hw4⟩ : ∃ w4, w3.setCells W2.heap.size 0 (cl d) = w4 := ⟨_, rfl⟩
      rw [hw4] at HI4 HB4 ⊢
      clear hw4 hnx hent HTH HSZ HON HI3 HB3 HW3
      have HLD := Lib.hid (HI4.out.loads 33 Tryd.isAgg33 (fun W => by rw [List.length_map, HDL.out]; exact Tryd.sizeOf33 W))
      have HB24 := Lib.hid (HB2.out.trans (HB4.out.mono HB2.out.size))
      have HR4 := Lib.hid (Kd.R_below HR2.out HB4.out)
      have HEN := Lib.hid (show (cl d).length = 32 from by rw [List.length_map]; exact HDL.out)
      have hen := HEN.out
      obtain ⟨q, hq⟩ : ∃ q, done.length = q := ⟨_, rfl⟩
      have HQ := Lib.hid hq
      rw [hq] at HR4 hdl ⊢
      have hs4 : w1.heap.size < w4.heap.size := by have := HB4.out.size; have := HSZ2.out; omega
      have HS4 := Lib.hid hs4
      clear hq hs4
      go_wp2_with (first | (with_reducible refine wpList_ld rfl 33 (.tmp 4) rfl ⟨W2.heap.size, 0, none⟩ rfl _ HLD.out ?_) | (at_builtin; rw [fill_cells _ _ (HEN.out.trans rfl)]; refine Kd.R_append kI (W := w4) (w0 := w) w.heap.size rfl (.tmp 20) (.tmp 22) 44 33 _ 32 rfl Tryd.underlying44 info33 (by decide) (by decide) (by decide) (.slice (some ad) q c) done d (cl d) (fun k => w.heap.size ≤ k ∧ k ≠ w1.heap.size) (fun _ => False) rfl (by simp [Act.eval]) ⟨HDL.out, rfl⟩ (fun _ hk => hk.elim) (fun k hk => by have := HS4.out; omega) HR4.out HB24.out HB24.out.size (by rw [HQ.out]; omega) ?_; intro v5 w5 hr5 hb5 hg5 hat5; have HR5 := Lib.hid hr5; have HB5 := Lib.hid hb5; have HG5 := Lib.hid hg5; have HA5 := Lib.hid (own_some hat5 rfl); clear hr5 hb5 hg5 hat5))
      clear hen
      obtain ⟨A5, c5, hv5⟩ := Kd.R_slice HR5.out
      obtain ⟨ad5, rfl⟩ := slice_own hv5 HA5.out.choose_spec
      subst hv5
      obtain ⟨g', rfl⟩ : ∃ g', gk = g' + 1 := ⟨gk - 1, by have := HGF.out; have := HLL.out; omega⟩
      go_roundg g'
      case measure => omega
      case rel =>
        refine ⟨left', done ++ [d], ad5, c5, rfl, by have := HGF.out; have := HLL.out; omega, HDP.out, HR5.out, HB5.out, by have := HG5.out.size; have := HS4.out; omega, ?_⟩
        have hk := HR4.out.1 ad.block rfl
        have hkm := HKM.out
        have h1 := HSZ1.out
        have h2 := HSZ2.out
        have h4 := HS4.out
        have hmv : ∀ k, k < W2.heap.size → k ≠ ad.block → w5.heap[k]? = W2.heap[k]? := fun k hlt hne => (HG5.out.block k (Nat.lt_of_lt_of_le hlt HB4.out.size) (fun e => hne (Option.some.inj e))).trans (HB4.out.block k hlt)
        exact HRG.out.move (hmv km (by omega) (by omega)) (hmv w1.heap.size h2 (fun e => hk.2 e.symm))
end Go.Proofs.YtfbkkcigkpffiaaDoor.St
