/- All's iterator: its contract. -/
import Derived.Test.YtfbkkcigkpffiaaDoorIb
import Derived.Shelf.SlSortCmp.NoneTotal
namespace Go.Proofs.YtfbkkcigkpffiaaDoor.St
open Go Go.Lib Go.RowKit Go.ChangeMaps Go.Proofs.YtfbkkcigkpffiaaDoorW.PrintWords Go.Proofs.YtfbkkcigkpffiaaDoorW.PrintLast Go.Proofs.YtfbkkcigkpffiaaDoorW.PrintMore Go.Proofs.YtfbkkcigkpffiaaDoor.PStoreMany Go.Sort
set_option linter.unusedVariables false
set_option linter.unusedSimpArgs false
theorem sort_none (p : Option Addr) (cap : Nat) (w : World) : Calls Tryd.prog 36 #[.slice p 0 cap, .func (.func 37) #[] #[]] w fun e w' => e = .returned (.tuple #[]) ∧ w' = w :=
  AnyF.slices_SortFunc_none Tryd.sortId p cap _ w
theorem sortWorld_type (w : World) (g n : Nat) (d : Array OId) (os : Array Obj) {cs : Array Value} {t : TypeId} {f : Nat × Nat} (h : w.heap[g]? = some (.cells cs t f)) : ∃ cs', (sortWorldK encI 32 w g 0 n d os).heap[g]? = some (.cells cs' t f) := by
  have hg := (Array.getElem?_eq_some_iff.1 h).1
  have e : (sortWorldK encI 32 w g 0 n d os).heap[g]? = (w.heap[g]?).map (onCells (putCells id 0 (flatK encI 32 d))) := by
    simp only [sortWorldK, grow, putRowK, putRow, mapBlock, ahead]
    rw [Array.getElem?_append_left (by simpa [Sort.ahead] using hg), Array.getElem?_modify, if_pos rfl]
    rfl
  rw [h] at e
  exact ⟨_, e⟩
/-- What SortFunc leaves, the row's type too. -/
theorem sort_typed (L : List By) (g cap B : Nat) (w0 w : World) (hok : ∀ x ∈ L, x.length = 32) (hR : RowI w g L) {cs : Array Value} {t : TypeId} {f : Nat × Nat} (hg0 : w.heap[g]? = some (.cells cs t f)) (hb : Below B w0 w) (hB : B ≤ g) (hl : L.length ≤ 4000000000) :
    Calls Tryd.prog 36 #[.slice (some ⟨g, 0, none⟩) L.length cap, .func (.func 37) #[] #[]] w fun e w' => ∃ D, e = .returned (.tuple #[]) ∧ D.Perm L ∧ Sorted D ∧ RowI w' g D ∧ Below B w0 w' ∧ ∃ cs', w'.heap[g]? = some (.cells cs' t f) := by
  have hg := (Array.getElem?_eq_some_iff.1 hg0).1
  have eg : ∀ args w, (callFunc 37 args).run Tryd.prog w = .ok (.enter 37 args) w := enters_of Tryd.func37 (by kernel_rfl) rfl
  have hH := holdsK_of_row hok hR
  have hcon := AnyQ.slices_SortFunc Tryd.sortId 32 Tryd.isAgg33 Tryd.sizeOf33 encI encI_len encI_one cfI swoI 37 #[] g 0 cap (oArr L hok) w eg (cmpLaysI g _ w) hH hg (by rw [oArr_size]; omega)
  rw [oArr_size] at hcon
  refine Calls.mono hcon ?_
  rintro e w' ⟨rfl, d', n, os, hp, hs, rfl⟩
  have hsz : d'.size = L.length := by rw [hp.1, oArr_size]
  have hperm : (d'.toList.map (·.1)).Perm L := by
    have h := hp.2.2
    rw [← oArr_size L hok] at h
    rw [Array.extract_size] at h
    rw [show (oArr L hok).size = d'.size by rw [hp.1], Array.extract_size] at h
    have h2 := h.map (fun x : OId => x.1)
    rwa [oArr_map] at h2
  refine ⟨d'.toList.map (·.1), rfl, hperm, ?_, ?_, hb.trans (below_sortWorld w g n B d' os hB (by omega)), sortWorld_type w g n d' os hg0⟩
  · unfold Sorted
    rw [List.pairwise_map, List.pairwise_iff_getElem]
    intro i j hi hj hij
    have hi' : i < d'.size := by simpa using hi
    have hj' : j < d'.size := by simpa using hj
    have h := hs i j (Nat.zero_le _) hij (by omega)
    rw [getElem!_pos d' i hi', getElem!_pos d' j hj', ltI_false] at h
    simpa using h
  · exact row_of_holdsK d' (holdsK_sortWorldK encI 32 w g 0 n (oArr L hok) d' os hg hH (by rw [hsz, oArr_size]))
/-- SortFunc of ids in a row of one's own, a nil one too. -/
theorem sort_any (L : List By) (A : Option Addr) (cap B : Nat) (ok : Nat → Prop) (w : World) (hR : Kd.R kI 33 w B ok (.slice A L.length cap) L) (hl : L.length ≤ 4000000000) :
    Calls Tryd.prog 36 #[.slice A L.length cap, .func (.func 37) #[] #[]] w fun e w' => e = .returned (.tuple #[]) ∧ ∃ D, D.Perm L ∧ Sorted D ∧ ((L = [] ∧ w' = w) ∨ ∃ g, A = some ⟨g, 0, none⟩ ∧ ok g ∧ B ≤ g ∧ (∃ cs f, w'.heap[g]? = some (.cells cs 33 f)) ∧ RowI w' g D ∧ Below g w w') := by
  have hlens := R_lens hR
  cases hL : L with
  | nil =>
    refine (sort_none A cap w).mono ?_
    rintro e w' ⟨rfl, rfl⟩
    exact ⟨rfl, [], List.Perm.refl _, List.Pairwise.nil, .inl ⟨rfl, rfl⟩⟩
  | cons x r =>
    rw [← hL]
    obtain ⟨b, hb⟩ : ∃ b, (Value.slice A L.length cap).ownBlock = some b := by
      obtain ⟨_, _, hC⟩ := Kd.R_reads' hR
      obtain ⟨ad, rfl, _⟩ := hC.2.2 (by rw [hL]; simp)
      obtain ⟨inner, ho⟩ := Kd.R_own hR
      rcases ho.2 with ⟨h1, h2⟩ | ⟨g, cap', cur, h1, _⟩
      · rw [hL] at h1; simp at h1
      · exact ⟨g, by rw [h1]; rfl⟩
    obtain ⟨g, c', h1, h2, h3, h4, h5⟩ := R_rowI hR hb
    injection h1 with e1 _ e3
    subst e1
    subst e3
    obtain ⟨inner, ho⟩ := Kd.R_own hR
    obtain ⟨cells, hcl⟩ := own_typed ho g rfl
    refine (sort_typed L g cap g w w hlens h5 hcl (Below.refl _ _) (Nat.le_refl _) hl).mono ?_
    rintro e w' ⟨D, rfl, hp, hs, hr, hbl, cs', hc'⟩
    exact ⟨rfl, D, hp, hs, .inr ⟨g, rfl, hR.1 g rfl, h2, ⟨cs', _, hc'⟩, hr, hbl⟩⟩
/-- What comes is an entry of the map. -/
theorem kget_mem : ∀ {kv : KV} {x : By × Value}, (kv.map (·.1)).Nodup → x ∈ kv → kget kv x.1 = some x.2
  | [], _, _, h => by cases h
  | (a, v) :: r, x, hn, h => by
    rw [List.map_cons, List.nodup_cons] at hn
    unfold kget
    rcases List.mem_cons.1 h with rfl | h
    · rw [if_pos rfl]
    · by_cases e : a = x.1
      · exact absurd (e ▸ List.mem_map_of_mem (f := (·.1)) h) hn.1
      · rw [if_neg e]
        exact kget_mem hn.2 h
theorem Same.mem {w : World} : ∀ {kv : KV} {its : Its}, Same w kv its → ∀ {x : By × Value}, x ∈ kv → ∃ b, (x.1, b) ∈ its ∧ IsB w x.2 b
  | [], [], _, _, h => by cases h
  | (a, v) :: r, (d, b) :: s, h, x, hx => by
    obtain ⟨rfl, hb, hr⟩ := h
    rcases List.mem_cons.1 hx with rfl | hx
    · exact ⟨b, List.mem_cons_self, hb⟩
    · obtain ⟨b', h1, h2⟩ := Same.mem hr hx
      exact ⟨b', List.mem_cons_of_mem _ h1, h2⟩
  | [], _ :: _, h, _, _ => h.elim
  | _ :: _, [], h, _, _ => h.elim
theorem cell_same {w w' : World} {p : Addr} (e : w'.heap[p.block]? = w.heap[p.block]?) : w'.cell? p = w.cell? p := by unfold World.cell?; rw [e]
/-- Bytes where their block lies as it lay. -/
theorem IsB.kept {w w' : World} {v : Value} {b : List Int} (h : IsB w v b) (hk : ∀ ad n c, v = .slice (some ad) n c → 0 < n → ad.block < w.heap.size → w'.heap[ad.block]? = w.heap[ad.block]?) : IsB w' v b := by
  obtain ⟨A, c, rfl, hc, h1, h2, h3⟩ := h
  refine ⟨A, c, rfl, hc, h1, h2, fun hp => ?_⟩
  obtain ⟨ad, rfl, hcell⟩ := h3 hp
  refine ⟨ad, rfl, fun j x hj => ?_⟩
  obtain ⟨cs, hl, hk1, hcs⟩ := hcell j x hj
  refine ⟨cs, hl, hk1, fun i u hu => ?_⟩
  have hc0 := hcs i u hu
  have hlt : ad.block < w.heap.size := by
    have h9 := World.block_lt_of_cell? w _ hc0
    rwa [add_block] at h9
  rw [← hc0]
  exact cell_same (by rw [add_block]; exact hk ad _ c rfl hp hlt)
/-- What the iterator tells at a yield. -/
def Yl (D : List By) (its : Its) (n : Nat) (pre : List (By × Value)) (x : By × Value) (W : World) : Prop :=
  (pre ++ [x]).map (·.1) <+: D ∧ ∃ b, (x.1, b) ∈ its ∧ Kd.R kB 5 W n (fun k => n ≤ k) x.2 b
end Go.Proofs.YtfbkkcigkpffiaaDoor.St

namespace Go.Proofs.YtfbkkcigkpffiaaDoor.St
open Go Go.Lib Go.RowKit Go.ChangeMaps Go.Proofs.YtfbkkcigkpffiaaDoorW.PrintWords Go.Proofs.YtfbkkcigkpffiaaDoorW.PrintLast Go.Proofs.YtfbkkcigkpffiaaDoorW.PrintMore Go.Proofs.YtfbkkcigkpffiaaDoor.PStoreMany Go.Sort
set_option linter.unusedVariables false
set_option linter.unusedSimpArgs false
theorem uq_nodup' : ∀ {its : Its}, Uq its → (its.map (·.1)).Nodup := fun h => Uq.nodup h
/-- What the caller's own blocks must be. -/
structure MineOk (w : World) (km : Nat) (Mine : World → Nat → Prop) : Prop where
  grow : ∀ A B k, w.heap.size ≤ A.heap.size → Below A.heap.size A B → Mine B k → Mine A k
  lt : ∀ k, Mine w k → k < w.heap.size
  enc : ∀ kv, IMap w km kv → ∀ x ∈ kv, ∀ ad n c, x.2 = .slice (some ad) n c → 0 < n → ¬ Mine w ad.block
/-- What is so of the iterator's own blocks between two rounds. -/
structure Ours (w : World) (Mine : World → Nat → Prop) (D : List By) (done : KV) (m : Nat) (A : Option Addr) (wr : World) : Prop where
  low : w.heap.size ≤ wr.heap.size
  map : IMap wr m done
  mm : ¬ Mine wr m
  row : D ≠ [] → ∃ g, A = some ⟨g, 0, none⟩ ∧ RowI wr g D ∧ ¬ Mine wr g ∧ (∃ cs f, wr.heap[g]? = some (.cells cs 33 f))
  old : ∀ k, k < w.heap.size → ¬ Mine w k → wr.heap[k]? = w.heap[k]?
  mine : ∀ k, k < w.heap.size → Mine wr k → Mine w k
theorem Ours.below {w : World} {Mine : World → Nat → Prop} {km : Nat} (hM : MineOk w km Mine) {D : List By} {done : KV} {m : Nat} {A : Option Addr} {wr w' : World} (h : Ours w Mine D done m A wr) (hb : Below wr.heap.size wr w') : Ours w Mine D done m A w' where
  low := Nat.le_trans h.low hb.size
  map := h.map.below hb
  mm := fun hm => h.mm (hM.grow wr w' m h.low hb hm)
  row := fun hd => by
    obtain ⟨g, h1, h2, h3, cs, f, h4⟩ := h.row hd
    have hg := (Array.getElem?_eq_some_iff.1 h4).1
    exact ⟨g, h1, h2.below hg hb, fun hm => h3 (hM.grow wr w' g h.low hb hm), cs, f, (hb.block g hg).trans h4⟩
  old := fun k hk hn => (hb.block k (Nat.lt_of_lt_of_le hk h.low)).trans (h.old k hk hn)
  mine := fun k hk hm => h.mine k hk (hM.grow wr w' k h.low hb hm)
theorem RowI.same {w w' : World} {g : Nat} {L : List By} (h : RowI w g L) (e : w'.heap[g]? = w.heap[g]?) : RowI w' g L := fun i hi j v hj => by
  obtain ⟨h1, h2⟩ := h i hi j v hj
  refine ⟨(cell_same e).trans h1, ?_⟩
  unfold World.frozen? at h2 ⊢
  rw [e]
  exact h2
theorem Ours.kept {w : World} {Mine : World → Nat → Prop} {D : List By} {done : KV} {m : Nat} {A : Option Addr} {wr w' : World} (h : Ours w Mine D done m A wr) (hk : KpS w.heap.size Mine wr w') : Ours w Mine D done m A w' where
  low := Nat.le_trans h.low hk.size
  map := by
    obtain ⟨es, c, hb, r⟩ := h.map
    exact ⟨es, c, hk.new m _ hb rfl h.mm, r⟩
  mm := fun hm => (hk.mine m hm).elim h.mm (fun hs => by have := h.map.lt; omega)
  row := fun hd => by
    obtain ⟨g, h1, h2, h3, cs, f, h4⟩ := h.row hd
    have hg := (Array.getElem?_eq_some_iff.1 h4).1
    have e := hk.new g _ h4 rfl h3
    exact ⟨g, h1, h2.same (e.trans h4.symm), fun hm => (hk.mine g hm).elim h3 (fun hs => by omega), cs, f, e⟩
  old := fun k hki hn => (hk.old k hki (fun hm => hn (h.mine k hki hm))).trans (h.old k hki hn)
  mine := fun k hki hm => (hk.mine k hm).elim (fun hm => h.mine k hki hm) (fun hs => by have := h.low; omega)
set_option maxRecDepth 100000 in
set_option maxHeartbeats 8000000 in
theorem all_seq (ks km bx : Nat) (its : Its) (D : List By) (w : World) (Mine : World → Nat → Prop) (hbx : w.cell? ⟨bx, 0, none⟩ = some (.pointer (some ⟨ks, 0, none⟩))) (h : StoreAt w ks km its) (hu : Uq its) (hl : its.length ≤ 1000000) (hb : ∀ x ∈ its, x.2.length ≤ 1000000) (hM : MineOk w km Mine) (hDs : Sorted D) (hDp : D.Perm (its.map (·.1))) :
    SeqB Tryd.prog 40 #[.pointer (some ⟨bx, 0, none⟩)] (fun x : By × Value => #[vId x.1, x.2]) (Yl D its w.heap.size) (KpS w.heap.size Mine) (fun xs => xs.map (·.1) = D) (fun pre => pre.map (·.1) <+: D) w := by
  intro l J Jx W hbW hJ hJx hY h0
  show Calls Tryd.prog 40 #[.func (.yield l) #[] #[], .pointer (some ⟨bx, 0, none⟩)] W _
  obtain ⟨post, hpost⟩ : ∃ post : Ending → World → Prop, (fun e W' => (∃ v, e = .returned v) ∧ ((∃ xs : List (By × Value), xs.map (·.1) = D ∧ J xs W') ∨ (∃ pre : List (By × Value), pre.map (·.1) <+: D ∧ Jx pre W'))) = post := ⟨_, rfl⟩
  rw [hpost]
  have HPO := Lib.hid hpost
  have HBW := Lib.hid hbW
  have HJ := Lib.hid hJ
  have HY := Lib.hid hY
  have HMI := Lib.hid hM
  have HDS := Lib.hid hDs
  have HIB := Lib.hid hb
  obtain ⟨kv, hm, hs⟩ := h.map
  have HMw := Lib.hid hm
  have HSM := Lib.hid hs
  have HM := Lib.hid (hm.below hbW)
  have c0 : W.cell? ⟨bx, 0, none⟩ = some (.pointer (some ⟨ks, 0, none⟩)) := pw_cell_below hbW hbx
  have c1 : W.cell? ⟨ks, 0, none⟩ = some (.map (some km)) := pw_cell_below hbW (h.blk.cell 0)
  have HND := Lib.hid (show (kv.map (·.1)).Nodup from by rw [keys_of hs]; exact uq_nodup' hu)
  have HKD := Lib.hid (show D.Perm (kv.map (·.1)) from by rw [keys_of hs]; exact hDp)
  have HKL := Lib.hid (show kv.length ≤ 1000000 from by rw [hs.len]; exact hl)
  have HK32 := Lib.hid (show ∀ x ∈ kv, x.1.length = 32 from by obtain ⟨es, ck, _, _, _, _, h32⟩ := hm; exact h32)
  have hmm := @run_makeMap Tryd.prog
  obtain ⟨w1, hw1⟩ : ∃ w1, W.alloc (.map #[] 0) = w1 := ⟨_, rfl⟩
  obtain ⟨m, hmz⟩ : ∃ m, W.heap.size = m := ⟨_, rfl⟩
  have HMZ := Lib.hid hmz
  have HM1 := Lib.hid (show IMap w1 m [] from hmz ▸ hw1 ▸ IMap.made W)
  have HB1 := Lib.hid (show Below W.heap.size W w1 from hw1 ▸ below_alloc (Below.refl _ _) _)
  have hs1 : w1.heap.size = m + 1 := by rw [← hw1, ← hmz]; simp
  have HS1 := Lib.hid hs1
  have c0' := pw_cell_below HB1.out c0
  have c1' := pw_cell_below HB1.out c1
  obtain ⟨o, hrun, hrng⟩ := run_range (P := Tryd.prog) kv (HM.out.below HB1.out) Tryd.underlying70
  have HRNG := Lib.hid hrng
  have HKM := Lib.hid (show km < m from hmz ▸ HM.out.lt)
  have HW1 := Lib.hid hw1
  clear hbW hJ hY hM hDs hb hbx h hu hl hm hs hDp hpost hrng hw1 c0 c1
  go_enter Tryd.func40, Tryd.ntmps40
  go_upto_region 2 with fail
  rw [HW1.out]
  clear hmm
  go_upto_block 0 with (fail)
  obtain ⟨w2, hw2⟩ : ∃ w2, w1.alloc o = w2 := ⟨_, rfl⟩
  have HB2 := Lib.hid (show Below w1.heap.size w1 w2 from hw2 ▸ below_alloc (Below.refl _ _) _)
  have HS2 := Lib.hid (show w2.heap.size = m + 2 from by rw [← hw2]; simp [HS1.out])
  rw [hw2] at HRNG ⊢
  rw [hs1] at HRNG
  try rw [hs1]
  clear hw2 hrun c0' c1'
  go_wp2_with fail
  go_loopg [3] kv.length (fun gf v3 wr => ∃ (left done : KV) (A' : Option Addr) (c' : Nat), v3 = .slice A' done.length c' ∧ left.length ≤ gf ∧ (done ++ left).Perm kv ∧ Kd.R kI 33 wr m (fun k => m + 1 < k) (.slice A' done.length c') (done.map (·.1)) ∧ IMap wr m done ∧ Below m W wr ∧ m + 1 < wr.heap.size ∧ Rng wr km (m + 1) left)
  case atStart => exact ⟨kv, [], none, 0, rfl, Nat.le_refl _, List.Perm.refl _, Kd.R_nil _ _ _ _ _, HM1.out.below HB2.out, (HMZ.out ▸ HB1.out.trans (HB2.out.mono HB1.out.size)), by rw [HS2.out]; omega, HRNG.out⟩
  case round =>
    obtain ⟨left, done, A', c', rfl, hgf, hdp, hR, him, hbw, hsz, hrg⟩ := hrel
    have hkm := HKM.out
    have hne : km ≠ m + 1 := by omega
    rcases run_next (P := Tryd.prog) left hrg hne 0 with ⟨rfl, hnx⟩ | ⟨x, left', w4, o1, hpx, hw4, hnx, hrg1, hcur⟩
    · rw [List.append_nil] at hdp
      have HDP := Lib.hid hdp
      have HIM := Lib.hid him
      have HBr := Lib.hid hbw
      have hlm : (done.map (·.1)).length = done.length := List.length_map _
      have HSW := Lib.hid (sort_any (done.map (·.1)) A' c' m _ wr (by rw [hlm]; exact hR) (by rw [hlm, hdp.length_eq]; have := HKL.out; omega))
      rw [hlm] at HSW
      have HDL := Lib.hid (show done.length ≤ 1000000 from by rw [hdp.length_eq]; exact HKL.out)
      obtain ⟨n, hn⟩ : ∃ n, done.length = n := ⟨_, rfl⟩
      have HN := Lib.hid hn
      rw [hn] at HSW HDL ⊢
      clear hdp him hbw hrg hgf hn hR hsz
      go_wp2_with fail
      refine HSW.out.mono ?_
      rintro e w8 ⟨rfl, D', hp', hs', hcase⟩
      obtain rfl : D' = D := sorted_eq hs' HDS.out (hp'.trans ((HDP.out.map _).trans HKD.out.symm))
      have HDn := Lib.hid (show D'.length = n from by rw [hp'.length_eq, List.length_map, HN.out])
      have HOW := Lib.hid (show Ours w Mine D' done m A' w8 from by
        have hbb : Below m W w8 ∧ IMap w8 m done := by
          rcases hcase with ⟨_, rfl⟩ | ⟨g, _, h1, h2, _, _, h3⟩
          · exact ⟨HBr.out, HIM.out⟩
          · exact ⟨HBr.out.trans (h3.mono h2), HIM.out.of_block (h3.block m (by omega))⟩
        have hBW := hbb.1
        have hlow : w.heap.size ≤ w8.heap.size := Nat.le_trans HBW.out.size hBW.size
        have hbw8 : Below w.heap.size w w8 := HBW.out.trans (hBW.mono (by rw [← HMZ.out]; exact HBW.out.size))
        have hmine : ∀ k, Mine w8 k → Mine w k := fun k hk => HMI.out.grow w w8 k (Nat.le_refl _) hbw8 hk
        have hmge : ∀ k, m ≤ k → ¬ Mine w8 k := fun k hk hm => by
          have h1 := HMI.out.lt k (hmine k hm)
          have h2 := HBW.out.size
          have h3 := HMZ.out
          omega
        refine ⟨hlow, hbb.2, hmge m (Nat.le_refl _), fun hd => ?_, fun k hk _ => hbw8.block k hk, fun k _ hk => hmine k hk⟩
        rcases hcase with ⟨h1, _⟩ | ⟨g, h1, h2, h3, ⟨cs, f, h4⟩, h5, _⟩
        · rw [h1] at hp'
          exact absurd hp'.eq_nil hd
        · exact ⟨g, h1, h5, hmge g h3, cs, f, h4⟩)
      have HJ8 := Lib.hid (show J [] w8 from by
        rcases hcase with ⟨_, rfl⟩ | ⟨g, _, h1, h2, _, _, h3⟩
        · exact HJ.out _ _ _ h0 (HMZ.out ▸ HBr.out)
        · exact HJ.out _ _ _ h0 (HMZ.out ▸ HBr.out.trans (h3.mono h2)))
      have hnl : n ≤ 1000000 := HDL.out
      clear hcase hp' hs' HSW
      go_wp2_with fail
      go_loopw [31] (fun v31 wr => ∃ (i : Nat) (pre : List (By × Value)), i ≤ n ∧ v31 = .int .i64 i ∧ Hid (pre.map (·.1) = D'.take i) ∧ Hid (J pre wr) ∧ Hid (Ours w Mine D' done m A' wr)) (fun v31 _ => n - (RowKit.intOf v31).toNat)
      case atStart => exact ⟨0, [], Nat.zero_le _, rfl, Lib.hid rfl, HJ8, HOW⟩
      case round =>
        obtain ⟨i, pre, hi, rfl, HPR, HJR, HOR⟩ := hrel
        by_cases hlt : i < n
        · have hlt' : (i : Int) < (n : Int) := by omega
          have hi0 : (0 : Int) ≤ (i : Int) := by omega
          have hil : i < D'.length := by rw [HDn.out]; exact hlt
          obtain ⟨g, rfl, hrow, hmg, htg⟩ := HOR.out.row (fun e => by rw [e] at hil; exact Nat.not_lt_zero _ hil)
          obtain ⟨k, hk⟩ : ∃ k, D'[i] = k := ⟨_, rfl⟩
          have hkk : k ∈ kv.map (·.1) := HKD.out.subset (hk ▸ List.getElem_mem hil)
          obtain ⟨⟨k', v⟩, hxm, hxk⟩ := List.mem_map.1 hkk
          have hxk' : k' = k := hxk
          subst hxk'
          have HKL2 := Lib.hid (show k'.length = 32 from HK32.out _ hxm)
          obtain ⟨b, hbm, hbv⟩ := HSM.out.mem hxm
          have hbr : IsB wr v b := hbv.kept (fun ad n c hv hn hlt => HOR.out.old ad.block hlt (HMI.out.enc kv HMw.out (k', v) hxm ad n c hv hn))
          have HG := Lib.hid (show kget done k' = some v from kget_mem (x := (k', v)) (((HDP.out.map _).nodup_iff).2 HND.out) (HDP.out.symm.subset hxm))
          have HBM := Lib.hid (show (k', b) ∈ its from hbm)
          have HBL := Lib.hid (HIB.out _ hbm)
          have HTK := Lib.hid (show D'.take (i + 1) = D'.take i ++ [k'] from by rw [List.take_succ_eq_append_getElem hil, hk])
          have HCA := Lib.hid (show CellsAt wr ⟨g, i * 32, none⟩ (cl k') from fun j u hj => by
            rw [Addr.add_lit]
            exact (hrow i hil j u (by rw [hk]; exact hj)).1)
          obtain ⟨A, c, rfl, hcc, hC⟩ := hbr
          have HC := Lib.hid hC
          have HLD := Lib.hid (HCA.out.load 33 Tryd.isAgg33 (fun W => by rw [List.length_map, HKL2.out]; exact Tryd.sizeOf33 W))
          obtain ⟨w9, hw9⟩ : ∃ w9, wr.alloc (.cells (noughts 32).toArray 33) = w9 := ⟨_, rfl⟩
          have HW9 := Lib.hid hw9
          have HI9 := Lib.hid (show Blk w9 wr.heap.size 33 (noughts 32) from hw9 ▸ Blk.new wr 33 _)
          have HB9 := Lib.hid (show Below wr.heap.size wr w9 from hw9 ▸ below_alloc (Below.refl _ _) _)
          have HTH := Lib.hid (HI9.out.there 0 (cl k').toArray.size (by rw [List.size_toArray, List.length_map, HKL2.out]; simp))
          have HSZ := Lib.hid (size33' HKL2.out)
          have HON := Lib.hid (one33 k')
          have HI10 := Lib.hid (setCell_zero33 w9 _ k' HKL2.out HI9.out)
          have HB10 := Lib.hid (show Below wr.heap.size wr (w9.setCells wr.heap.size 0 (cl k')) from (But.setCells (k := wr.heap.size) (cl k') 0 w9 (But.of_below HB9.out)).new (Nat.le_refl _))
          clear hw9 hkk hxm hxk hbv hbm hk hrow hmg htg hC
          go_upto_region 11 with (first | (with_reducible refine wpList_ld rfl 33 (.tmp 33) rfl ⟨g, i * 32, none⟩ rfl _ HLD.out ?_) | ((change wpList _ _ _ _ _ (wr.alloc (.cells (noughts 32).toArray 33))); rw [HW9.out]; refine wpList_store_mid rfl 33 (.tmp 8) (.tmp 34) rfl wr.heap.size 0 (cl k').toArray rfl rfl HTH.out HSZ.out HON.out ?_))
          obtain ⟨w10, hw10⟩ : ∃ w10, w9.setCells wr.heap.size 0 (cl k') = w10 := ⟨_, rfl⟩
          rw [hw10] at HI10 HB10 ⊢
          try simp only [Act.put]
          obtain ⟨N, hN⟩ : ∃ N, b.length = N := ⟨_, rfl⟩
          have HN2 := Lib.hid hN
          try rw [hN]
          clear hw10 HLD HTH HSZ HON HI9 HB9 HW9 HCA hN
          refine region_yield l m wr.heap.size k' (.slice A N c) _ _ _ _ _ _ _ _ _ _ _ _ _ _ _ _ _ _ _ _ _ _ _ _ _ _ _ _ _ _ _ _ _ _ _ _ _ _ _ _ _ w10 (fun W x w' => Kd.R kB 5 w' W.heap.size (fun q => W.heap.size ≤ q) x b) (fun w' x w'' => J (pre ++ [(k', x)]) w'' ∧ KpS w.heap.size Mine w' w'') (fun w' x w'' => Jx (pre ++ [(k', x)]) w'') ?_ ?_ ?_ ?_ ?_ ?_
          · intro W' hb
            exact (HI10.out.below hb).loads 33 Tryd.isAgg33 (fun W => by rw [List.length_map, HKL2.out]; exact Tryd.sizeOf33 W)
          · intro W' hb
            rw [((HOR.out.map.below HB10.out).below hb).lookup HKL2.out false, HG.out, ← HN2.out]
            rfl
          · intro W' hb
            have h := clone_own b A c W' (Kd.C_below (Kd.C_below HC.out HB10.out) hb) (Nat.le_trans HBL.out (by decide))
            rw [HN2.out] at h
            exact h.mono fun e w' ⟨x, he, hr, hbb⟩ => ⟨x, he, hr, hb.trans (hbb.mono hb.size)⟩
          · intro W' x w' hb hcl hb' nn
            have hwr : Below wr.heap.size wr w' := HB10.out.trans (hb'.mono HB10.out.size)
            have h := HY.out pre (k', x) w' (HJ.out _ _ _ HJR.out hwr) ⟨by
              rw [List.map_append, HPR.out]
              show D'.take i ++ [k'] <+: D'
              rw [← HTK.out]
              exact List.take_prefix _ _, b, HBM.out, Kd.R_mono (Kd.R_lower hcl (Nat.le_trans HOR.out.low (Nat.le_trans HB10.out.size hb.size))) (fun q hq => Nat.le_trans (Nat.le_trans HOR.out.low (Nat.le_trans HB10.out.size hb.size)) hq)⟩ nn
            exact h
          · rintro W' v40 w'' hb ⟨hJ2, hK2⟩
            have HJ2 := Lib.hid hJ2
            have HO2 := Lib.hid ((HOR.out.below HMI.out (HB10.out.trans (hb.mono HB10.out.size))).kept hK2)
            clear hJ2 hK2
            go_wp2_with fail
            go_roundw
            case rel =>
              refine ⟨i + 1, pre ++ [(k', v40)], ?_, ?_, ?_, ?_, ?_⟩
              · omega
              · go_num
              · exact Lib.hid (by rw [List.map_append, HPR.out, HTK.out]; rfl)
              · exact HJ2
              · exact HO2
            all_goals (simp only [RowKit.intOf]; omega)
          · rintro W' v40 w'' hb hJ2
            have HJ2 := Lib.hid hJ2
            clear hJ2
            go_wp2_with fail
            go_end0
            rw [← HPO.out]
            exact ⟨⟨_, rfl⟩, .inr ⟨pre ++ [(k', v40)], by
              rw [List.map_append, HPR.out]
              show D'.take i ++ [k'] <+: D'
              rw [← HTK.out]
              exact List.take_prefix _ _, HJ2.out⟩⟩
        · obtain rfl : i = n := by omega
          go_wp2_with fail
          go_end0
          rw [← HPO.out]
          exact ⟨⟨_, rfl⟩, .inl ⟨pre, by rw [HPR.out, List.take_of_length_le (by rw [HDn.out]; exact Nat.le_refl _)], HJR.out⟩⟩
    · obtain ⟨d, v⟩ := x
      have hdp' : ((done ++ [(d, v)]) ++ left').Perm kv := by
        refine List.Perm.trans ?_ hdp
        rw [List.append_assoc]
        exact hpx.symm.append_left done
      have HDL := Lib.hid (show d.length = 32 from HK32.out (d, v) (hdp'.subset (by simp)))
      have HFR := Lib.hid (show kput done d v = done ++ [(d, v)] from kput_fresh (fun hm => by
        have h1 := ((hdp'.map (·.1)).nodup_iff).2 HND.out
        rw [List.map_append, List.map_append] at h1
        have h2 := (List.nodup_append.1 (List.nodup_append.1 h1).1).2.2 d hm d (by simp)
        exact h2 rfl))
      have hdl : done.length + 1 ≤ 1000000 := by
        have h1 := hdp'.length_eq
        have h2 := HKL.out
        rw [List.length_append, List.length_append, List.length_singleton] at h1
        omega
      have hent := run_entry (P := Tryd.prog) (d, v) hcur
      have hold : ∀ k, k ≠ m + 1 → (setBlock w4 (m + 1) o1).heap[k]? = wr.heap[k]? := fun k hk => (set_other hk).trans (by rcases hw4 with rfl | rfl <;> rfl)
      have hB4 := below_setBlock (o := o1) (below_either hbw hw4) (show m ≤ m + 1 by omega)
      have him4 : IMap (setBlock w4 (m + 1) o1) m done := him.of_block (hold m (by omega))
      have hR4 : Kd.R kI 33 (setBlock w4 (m + 1) o1) m (fun k => m + 1 < k) (.slice A' done.length c') (done.map (·.1)) := Kd.R_step hR (fun k hk _ => hold k (by have : m + 1 < k := hk; omega))
      have hsz4 : m + 1 < (setBlock w4 (m + 1) o1).heap.size := by
        unfold setBlock; simp
        rcases hw4 with rfl | rfl
        · exact hsz
        · exact hsz
      obtain ⟨W2, hW2⟩ : ∃ W2, setBlock w4 (m + 1) o1 = W2 := ⟨_, rfl⟩
      rw [hW2] at hnx hent hB4 hrg1 hsz4 him4 hR4
      replace hent : (Instr.entry (.pointer (some ⟨m + 1, 0, none⟩))).run Tryd.prog W2 = .ok (.tuple #[vId d, v]) W2 := hent
      replace hnx : (Instr.next (.pointer (some ⟨m + 1, 0, none⟩)) false 0).run Tryd.prog wr = .ok (.tuple #[.bool true, vId d, v]) W2 := hnx
      have HDP := Lib.hid hdp'
      have HB4 := Lib.hid hB4
      have HRG := Lib.hid hrg1
      have HIM4 := Lib.hid him4
      have HR4 := Lib.hid hR4
      have HSZ4 := Lib.hid hsz4
      have hll := hpx.length_eq
      rw [List.length_cons] at hll
      have HLL := Lib.hid hll
      have HGF := Lib.hid hgf
      obtain ⟨w5, hw5⟩ : ∃ w5, W2.alloc (.cells (noughts 32).toArray 33) = w5 := ⟨_, rfl⟩
      have HW5 := Lib.hid hw5
      have HI5 := Lib.hid (show Blk w5 W2.heap.size 33 (noughts 32) from hw5 ▸ Blk.new W2 33 (noughts 32))
      have HB5 := Lib.hid (show Below W2.heap.size W2 w5 from hw5 ▸ below_alloc (Below.refl _ _) _)
      have HTH := Lib.hid (HI5.out.there 0 (cl d).toArray.size (by rw [List.size_toArray, List.length_map, HDL.out]; simp))
      have HSZ := Lib.hid (size33' HDL.out)
      have HON := Lib.hid (one33 d)
      have HI6 := Lib.hid (setCell_zero33 w5 _ d HDL.out HI5.out)
      have HB6 := Lib.hid (show Below W2.heap.size W2 (w5.setCells W2.heap.size 0 (cl d)) from (But.setCells (k := W2.heap.size) (cl d) 0 w5 (But.of_below HB5.out)).new (Nat.le_refl _))
      clear hW2 hw5 hdp' hB4 hrg1 hsz4 him4 hR4 hll hgf hcur hpx hdp hbw hsz hrg hw4 hold him hR hne
      go_upto_region 5 with (first | ((change wpList _ _ _ _ _ (W2.alloc (.cells (noughts 32).toArray 33))); rw [HW5.out]; refine wpList_store_mid rfl 33 (.tmp 5) (.tmp 18) rfl W2.heap.size 0 (cl d).toArray rfl rfl HTH.out HSZ.out HON.out ?_))
      obtain ⟨w6, hw6⟩ : ∃ w6, w5.setCells W2.heap.size 0 (cl d) = w6 := ⟨_, rfl⟩
      rw [hw6] at HI6 HB6 ⊢
      clear hw6 hnx hent HTH HSZ HON HI5 HB5 HW5
      have HB26 := Lib.hid (HB4.out.trans (HB6.out.mono (by have := HSZ4.out; omega)))
      have HR6 := Lib.hid (Kd.R_below HR4.out HB6.out)
      have HOB := Lib.hid (show ∀ q, (Value.slice A' done.length c').ownBlock = some q → m + 1 < q ∧ q < W2.heap.size from fun q hq => by
        have h := (Kd.R_bound HR4.out).1 q hq
        exact ⟨h.1, h.2.2.1⟩)
      have HS6 := Lib.hid (show m + 1 < w6.heap.size from Nat.lt_of_lt_of_le HSZ4.out HB6.out.size)
      have hm6 : m ≤ w6.heap.size := by have := HS6.out; omega
      have HLD := Lib.hid (HI6.out.loads 33 Tryd.isAgg33 (fun W => by rw [List.length_map, HDL.out]; exact Tryd.sizeOf33 W))
      have HEN := Lib.hid (show (cl d).length = 32 from by rw [List.length_map]; exact HDL.out)
      have hen := HEN.out
      obtain ⟨ki, hki⟩ : ∃ ki, W2.heap.size = ki := ⟨_, rfl⟩
      have HKI := Lib.hid hki
      rw [hki] at HI6 HLD ⊢
      obtain ⟨q, hq⟩ : ∃ q, done.length = q := ⟨_, rfl⟩
      have HQ := Lib.hid hq
      rw [hq] at HR6 HOB hdl ⊢
      obtain ⟨L0, hL0⟩ : ∃ L0 : List By, done.map (·.1) = L0 := ⟨_, rfl⟩
      have HL0 := Lib.hid hL0
      have HLN := Lib.hid (show L0.length = q from by rw [← hL0, List.length_map]; exact hq)
      rw [hL0] at HR6
      clear hki hq hL0
      go_upto_region 6 with (first | (with_reducible refine wpList_ld rfl 33 (.tmp 5) rfl ⟨ki, 0, none⟩ rfl _ HLD.out ?_) | (at_builtin; rw [fill_cells _ _ (HEN.out.trans rfl)]; refine Kd.R_append kI (W := w6) (w0 := W) m rfl (.tmp 20) (.tmp 22) 44 33 _ 32 rfl Tryd.underlying44 info33 (by decide) (by decide) (by decide) (.slice A' q c') L0 d (cl d) (fun k => m + 1 < k) (fun _ => False) rfl (by simp [Act.eval]) ⟨HDL.out, rfl⟩ (fun _ hk => hk.elim) (fun k hk => Nat.lt_of_lt_of_le HS6.out hk) HR6.out HB26.out hm6 (by rw [HLN.out]; omega) ?_; intro v7 w7 hr7 hb7 hg7 hat7; obtain ⟨A7, c7, hv7⟩ := Kd.R_slice hr7; rw [List.length_append, List.length_singleton, HLN.out] at hv7; subst hv7; have HR7 := Lib.hid hr7; have HB7 := Lib.hid hb7; have HG7 := Lib.hid hg7; clear hr7 hb7 hg7 hat7))
      clear hen
      have hblk : ∀ k, k < w6.heap.size → (∀ z, (Value.slice A' q c').ownBlock = some z → k ≠ z) → w7.heap[k]? = w6.heap[k]? := fun k hk hn => HG7.out.block k hk (fun e => hn k e.symm rfl)
      have HI7 := Lib.hid (show Blk w7 ki 33 (cl d) from (hblk ki (by have := HI6.out.lt; omega) (fun z hz => by have := (HOB.out z hz).2; have := HKI.out; omega)).trans HI6.out)
      have HIM7 := Lib.hid (show IMap w7 m done from (HIM4.out.below HB6.out).of_block (hblk m (by have := HS6.out; omega) (fun z hz => by have := (HOB.out z hz).1; omega)))
      have HMV := Lib.hid (show ∀ k, k < W2.heap.size → k ≤ m + 1 → w7.heap[k]? = W2.heap[k]? from fun k hk hle => (hblk k (Nat.lt_of_lt_of_le hk HB6.out.size) (fun z hz => by have := (HOB.out z hz).1; omega)).trans (HB6.out.block k hk))
      have HS7 := Lib.hid (show m + 1 < w7.heap.size from Nat.lt_of_lt_of_le HS6.out HG7.out.size)
      have HLD7 := Lib.hid (HI7.out.loads 33 Tryd.isAgg33 (fun W => by rw [List.length_map, HDL.out]; exact Tryd.sizeOf33 W))
      obtain ⟨ob, hrun, r1⟩ := IMap.update HIM7.out HDL.out v
      have hrun' : (Instr.mapUpdate 70 (Value.map (some m)) (Value.agg (cl d).toArray) v).run Tryd.prog w7 = .ok () (setBlock w7 m ob) := hrun
      rw [HFR.out] at r1
      have HIM8 := Lib.hid r1
      have HB8 := Lib.hid (below_setBlock (o := ob) HB7.out (Nat.le_refl m))
      have HR8 := Lib.hid (show Kd.R kI 33 (setBlock w7 m ob) m (fun k => m + 1 < k) (.slice A7 (q + 1) c7) (L0 ++ [d]) from Kd.R_step HR7.out (fun k hk _ => set_other (by have : m + 1 < k := hk; omega)))
      have HS8 := Lib.hid (show m + 1 < (setBlock w7 m ob).heap.size from by unfold setBlock; simp; exact HS7.out)
      have HRG8 := Lib.hid (show Rng (setBlock w7 m ob) km (m + 1) left' from HRG.out.move ((set_other (by have := HKM.out; omega)).trans (HMV.out km (by have := HKM.out; have := HSZ4.out; omega) (by have := HKM.out; omega))) ((set_other (by omega)).trans (HMV.out (m + 1) HSZ4.out (Nat.le_refl _))))
      clear hblk hrun r1
      go_wp2_with (first | (with_reducible refine wpList_ld rfl 33 (.tmp 5) rfl ⟨ki, 0, none⟩ rfl _ HLD7.out ?_) | (rw [hrun']))
      obtain ⟨g', rfl⟩ : ∃ g', gk = g' + 1 := ⟨gk - 1, by have := HGF.out; have := HLL.out; omega⟩
      go_roundg g'
      case measure => omega
      case rel =>
        refine ⟨left', done ++ [(d, v)], A7, c7, ?_, ?_, ?_, ?_, ?_, ?_, ?_, ?_⟩
        · rw [List.length_append, List.length_singleton, HQ.out]
        · have := HGF.out; have := HLL.out; omega
        · exact HDP.out
        · rw [List.length_append, List.length_singleton, HQ.out, List.map_append, HL0.out]; exact HR8.out
        · exact HIM8.out
        · exact HB8.out
        · exact HS8.out
        · exact HRG8.out
end Go.Proofs.YtfbkkcigkpffiaaDoor.St

namespace Go.Proofs.YtfbkkcigkpffiaaDoor.St
open Go Go.Lib Go.RowKit Go.ChangeMaps Go.Proofs.YtfbkkcigkpffiaaDoorW.PrintWords Go.Proofs.YtfbkkcigkpffiaaDoorW.PrintLast Go.Proofs.YtfbkkcigkpffiaaDoorW.PrintMore Go.Proofs.YtfbkkcigkpffiaaDoor.PStoreMany
set_option linter.unusedVariables false
set_option linter.unusedSimpArgs false
set_option maxRecDepth 100000 in
theorem all_walk (ks : Nat) (w : World) : Calls Tryd.prog 25 #[.pointer (some ⟨ks, 0, none⟩)] w fun e w' => ∃ bx, e = .returned (.func (.func 40) #[] #[.pointer (some ⟨bx, 0, none⟩)]) ∧ w.heap.size ≤ bx ∧ w'.cell? ⟨bx, 0, none⟩ = some (.pointer (some ⟨ks, 0, none⟩)) ∧ Below w.heap.size w w' := by
  have hmf : ∀ (fn : Fn) (first cap : Array Value) (w : World), (Instr.makeFunc fn first cap).run Tryd.prog w = .ok (.func fn first cap) w := fun _ _ _ _ => rfl
  have HB := Lib.hid (Blk.new w 25 [.pointer (some ⟨ks, 0, none⟩)])
  go_enter Tryd.func25, Tryd.ntmps25
  go_wp2_with fail
  go_ret
  exact ⟨w.heap.size, rfl, Nat.le_refl _, HB.out.cell 0, below_alloc (Below.refl _ _) _⟩
theorem IMap.uniq {w : World} {km : Nat} {kv kv' : KV} (h : IMap w km kv) (h' : IMap w km kv') : kv = kv' := by
  obtain ⟨es, c, hb, hm, _⟩ := h
  obtain ⟨es', c', hb', hm', _⟩ := h'
  rw [hb] at hb'
  injection hb' with hb'
  injection hb' with e1 e2
  subst e1
  have := hm.symm.trans hm'
  exact (List.map_inj_right (fun x y hxy => G_inj hxy)).1 this
/-- The caller's own: a variable, and the row that it holds. -/
def MineB (b : Nat) (W : World) (k : Nat) : Prop := k = b ∨ ∃ v, W.cell? ⟨b, 0, none⟩ = some v ∧ v.ownBlock = some k
theorem mineB_ok {w wf : World} {ks km b : Nat} {its : Its} (hst : StoreAt wf ks km its) (hbl : Below wf.heap.size wf w) (hb : wf.heap.size ≤ b) (hn : w.cell? ⟨b, 0, none⟩ = some (.slice none 0 0)) : MineOk w km (MineB b) where
  grow := fun A B k hA hAB hk => by
    have hbw : b < w.heap.size := World.block_lt_of_cell? w _ hn
    rcases hk with rfl | ⟨v, hv, ho⟩
    · exact .inl rfl
    · exact .inr ⟨v, (cell_same (hAB.block b (Nat.lt_of_lt_of_le hbw hA))).symm.trans hv, ho⟩
  lt := fun k hk => by
    rcases hk with rfl | ⟨v, hv, ho⟩
    · exact World.block_lt_of_cell? w _ hn
    · rw [hn] at hv
      cases hv
      simp [Value.ownBlock] at ho
  enc := fun kv hm x hx ad n c hxe hp hk => by
    obtain ⟨kv0, hm0, hs0⟩ := hst.map
    obtain rfl := (hm0.below hbl).uniq hm
    obtain ⟨b', _, A, c', hv, _, _, _, h3⟩ := hs0.mem hx
    rw [hxe] at hv
    injection hv with e1 e2 e3
    subst e1
    obtain ⟨ad', he, hc⟩ := h3 (by omega)
    cases he
    obtain ⟨cs, hl, hk0, hcs⟩ := hc 0 _ (List.getElem?_eq_getElem (by omega))
    have hk1 : cs = [Value.int .u8 (b'[0]'(by omega))] := hk0
    have h9 := World.block_lt_of_cell? wf _ (hcs 0 _ (by rw [hk1]; rfl))
    rw [add_block] at h9
    rcases hk with h | ⟨v, hv, ho⟩
    · omega
    · rw [hn] at hv
      cases hv
      simp [Value.ownBlock] at ho
theorem KpS.of_below {w : World} {km : Nat} {Mine : World → Nat → Prop} (hM : MineOk w km Mine) {A B : World} (hA : w.heap.size ≤ A.heap.size) (hb : Below A.heap.size A B) : KpS w.heap.size Mine A B where
  low := hA
  size := hb.size
  old := fun k hk _ => hb.block k (Nat.lt_of_lt_of_le hk hA)
  new := fun k o ho _ _ => (hb.block k (Array.getElem?_eq_some_iff.1 ho).1).trans ho
  mine := fun k hk => .inl (hM.grow A B k hA hb hk)
theorem mineB_turn {b : Nat} (W : World) (l : Nat) (o o' : Loop) (k : Nat) (ho : W.heap[l]? = some (.loop o)) (h : MineB b (W.putObj l (.loop o')) k) : MineB b W k := by
  rcases h with rfl | ⟨v, hv, h⟩
  · exact .inl rfl
  · refine .inr ⟨v, ?_, h⟩
    by_cases e : b = l
    · subst e
      unfold World.cell? at hv
      simp only [World.putObj_heap_same (Array.getElem?_eq_some_iff.1 ho).1] at hv
      cases hv
    · exact (cell_same (p := ⟨b, 0, none⟩) (World.putObj_heap_other e)).symm.trans hv
theorem R_turn {α : Type} {d : Kd α} {e : Nat} {W : World} {B : Nat} {ok : Nat → Prop} {v : Value} {L : List α} {l : Nat} {o o' : Loop} (ho : W.heap[l]? = some (.loop o)) (h : Kd.R d e W B ok v L) : Kd.R d e (W.putObj l (.loop o')) B ok v L :=
  Kd.R_mono (Kd.R_step (Kd.R_mono (Kd.R_bound h) (ok' := fun k => ok k ∧ k ≠ l) (fun k hk => ⟨hk.1, fun e => by
    subst e
    obtain ⟨_, _, cs, hc⟩ := hk.2.2.2
    rw [ho] at hc
    cases hc⟩)) (fun k hk _ => World.putObj_heap_other hk.2)) (fun k hk => hk.1)
/-- A row collected in a variable. -/
def GotAt (b B : Nat) (L : List By) (W : World) : Prop := ∃ v, Blk W b 44 [v] ∧ Kd.R kI 33 W B (fun k => B ≤ k) v L
theorem GotAt.below {b B : Nat} {L : List By} {W W' : World} (h : GotAt b B L W) (hb : Below W.heap.size W W') : GotAt b B L W' := by
  obtain ⟨v, h1, h2⟩ := h
  exact ⟨v, h1.below hb, Kd.R_below h2 hb⟩
theorem GotAt.turn {b B : Nat} {L : List By} {W : World} {l : Nat} {o o' : Loop} (ho : W.heap[l]? = some (.loop o)) (h : GotAt b B L W) : GotAt b B L (W.putObj l (.loop o')) := by
  obtain ⟨v, h1, h2⟩ := h
  refine ⟨v, (World.putObj_heap_other (fun e => by
    subst e
    have h1' : W.heap[b]? = _ := h1
    rw [ho] at h1'
    cases h1')).trans h1, Kd.R_step (Kd.R_mono (Kd.R_bound h2) (ok' := fun k => B ≤ k ∧ k ≠ l) (fun k hk => ⟨hk.1, fun e => by
    subst e
    obtain ⟨_, _, cs, hc⟩ := hk.2.2.2
    rw [ho] at hc
    cases hc⟩)) (fun k hk _ => World.putObj_heap_other hk.2) |> fun h => Kd.R_mono h (fun k hk => hk.1)⟩
/-- An id more in the row. -/
theorem gather_step {wi W w7 : World} {b : Nat} {v v7 : Value} {L : List By} {d : By} (hbw : b < wi.heap.size) (hbt : But b wi W) (hbv : Blk W b 44 [v]) (hR : Kd.R kI 33 W wi.heap.size (fun k => wi.heap.size ≤ k) v L)
    (hR7 : Kd.R kI 33 w7 wi.heap.size (fun k => wi.heap.size ≤ k) v7 (L ++ [d])) (hb7 : Below wi.heap.size W w7) (hg7 : W.grownBy w7 v.ownBlock) (hat : v7.ownBlock = v.ownBlock ∨ ∃ k, v7.ownBlock = some k ∧ W.heap.size ≤ k) :
    KeepsBk W (w7.setCell ⟨b, 0, none⟩ v7) ∧ KpS wi.heap.size (MineB b) W (w7.setCell ⟨b, 0, none⟩ v7) ∧ But b wi (w7.setCell ⟨b, 0, none⟩ v7) ∧ GotAt b wi.heap.size (L ++ [d]) (w7.setCell ⟨b, 0, none⟩ v7) := by
  have hset : But b w7 (w7.setCell ⟨b, 0, none⟩ v7) := (But.refl _ _).set 0 _
  have hbl7 : Blk w7 b 44 [v] := (hb7.block b hbw).trans hbv
  have hbl : Blk (w7.setCell ⟨b, 0, none⟩ v7) b 44 [v7] := hbl7.set 0 v7
  have hown : ∀ k, v.ownBlock = some k → wi.heap.size ≤ k ∧ ∃ cs, W.heap[k]? = some (.cells cs 33 (0, 0)) := fun k hk => by
    obtain ⟨inner, ho⟩ := Kd.R_own hR
    exact ⟨hR.1 k hk, own_typed ho k hk⟩
  have hsame : ∀ k, k < W.heap.size → k ≠ b → v.ownBlock ≠ some k → (w7.setCell ⟨b, 0, none⟩ v7).heap[k]? = W.heap[k]? := fun k hk hn ho =>
    (hset.block k (Nat.lt_of_lt_of_le hk hg7.size) hn).trans (hg7.block k hk (fun e => ho e.symm))
  refine ⟨fun k o hk ho => (hsame k (Array.getElem?_eq_some_iff.1 hk).1 (fun e => ?_) (fun e => ?_)).trans hk, ⟨hbt.size, Nat.le_trans hg7.size hset.size, fun k hk hm => ?_, fun k o hk _ hm => (hsame k (Array.getElem?_eq_some_iff.1 hk).1 (fun e => hm (.inl e)) (fun e => hm (.inr ⟨v, hbv.cell 0, e⟩))).trans hk, fun k hk => ?_⟩, ?_, v7, hbl, ?_⟩
  · subst e
    have h1 : W.heap[k]? = _ := hbv
    rw [hk] at h1
    cases h1
    cases ho
  · obtain ⟨_, cs, hc⟩ := hown k e
    rw [hk] at hc
    cases hc
    cases ho
  · exact (hset.block k (Nat.lt_of_lt_of_le (Nat.lt_of_lt_of_le hk hbt.size) hg7.size) (fun e => hm (.inl e))).trans (hb7.block k hk)
  · rcases hk with e | ⟨u, hu, ho⟩
    · exact .inl (.inl e)
    · rw [hbl.cell 0] at hu
      obtain rfl : v7 = u := by simpa using hu
      rcases hat with h | ⟨k', h, hk'⟩
      · exact .inl (.inr ⟨v, hbv.cell 0, h.symm.trans ho⟩)
      · rw [h] at ho
        obtain rfl : k' = k := by simpa using ho
        exact .inr hk'
  · exact ⟨hset.os.trans (hb7.os.trans hbt.os), hset.tape.trans (hb7.tape.trans hbt.tape), hset.output.trans (hb7.output.trans hbt.output), Nat.le_trans hbt.size (Nat.le_trans hb7.size hset.size), fun j hj hn => (hset.block j (Nat.lt_of_lt_of_le (Nat.lt_of_lt_of_le hj hbt.size) hb7.size) hn).trans ((hb7.block j hj).trans (hbt.block j hj hn))⟩
  · exact Kd.R_step hR7 (fun k hk hlt => hset.block k hlt (fun e => by have : wi.heap.size ≤ k := hk; omega))
theorem results_box {fn : Func} {p : Tmp} (h : fn.results = #[.cell p 4]) {tmps : Array Value} {w : World} {g : Nat} {v : Bool} (hp : tmps.getD p undef = .pointer (some ⟨g, 0, none⟩)) (hg : Blk w g 4 [.bool v]) : (results fn tmps).run Tryd.prog w = .ok (.bool v) w := by
  have hc : w.cell? ⟨g, 0, none⟩ = some (.bool v) := hg.cell 0
  have hp' : tmps[p]?.getD undef = .pointer (some ⟨g, 0, none⟩) := by simpa using hp
  unfold results
  rw [h]
  simp [hp', loadVar, Tryd.isAgg4, asAddr, go_sem, hc]
theorem below_but {B k : Nat} {w a b : World} (h : Below B w a) (g : But k a b) (hk : B ≤ k) (hs : B ≤ a.heap.size) : Below B w b :=
  ⟨g.os.trans h.os, g.tape.trans h.tape, g.output.trans h.output, Nat.le_trans h.size g.size, fun j hj => (g.block j (by omega) (by omega)).trans (h.block j hj)⟩
theorem but_put' (k : Nat) (w : World) (o : Obj) : But k w (w.putObj k o) := ⟨rfl, rfl, rfl, by rw [World.putObj_size]; exact Nat.le_refl _, fun j _ hn => World.putObj_heap_other hn⟩
end Go.Proofs.YtfbkkcigkpffiaaDoor.St
