/- The walk of change: a name change is noted and carried out. -/
import Derived.Test.YtonecajkfbdnmaaEb
import Derived.Deep.RegionLaw
import Derived.Deep.RegionHeld3
import Derived.Deep.CutRange
import Derived.Deep.RegionWith
namespace Go.Proofs.Ytonecajkfbdnmaa.Dk
open Go.Lib Go.RowKit Go.ChangeMaps Go.Proofs.Ytonecajkfbdnmaa.Mp Go.Proofs.YtonecajkfbdnmaaW.PrintWords Go.Proofs.YtonecajkfbdnmaaW.PrintLast Go.Proofs.YtonecajkfbdnmaaW.PrintMore Go.Proofs.Ytonecajkfbdnmaa.PDiskRoom
set_option linter.unusedVariables false
set_option linter.unusedSimpArgs false

theorem kC_mkM (w : World) (base : Nat) (ok : Nat → Prop) (x : C99) : kC.M w base ok x [.int .i64 x.what, .string x.a, .string x.b, .pointer x.p] :=
  ⟨[.int .i64 x.what], [.string x.a, .string x.b, .pointer x.p], rfl, rfl, ⟨[.string x.a], [.string x.b, .pointer x.p], rfl, rfl, ⟨[.string x.b], [.pointer x.p], rfl, rfl, rfl⟩⟩⟩
theorem info99 : (Try.prog.info? 99).map (fun i => (i.zero, i.size, i.bytes)) = some (some (.agg #[.int .i64 0, .string ⟨#[]⟩, .string ⟨#[]⟩, .pointer none]), kC.sz, 48) := by kernel_rfl
/-- Every fresh block gets the role r. -/
def ext (own : Own) (n n' : Nat) (r : Role) : Own := fun k => if k < n then own k else if k < n' then some r else none
theorem ext_old {own : Own} {n n' : Nat} {r x : Role} {k : Nat} (hl : ∀ k r, own k = some r → k < n) (h : own k = some x) : ext own n n' r k = some x := by
  unfold ext; rw [if_pos (hl k x h)]; exact h
theorem ext_lt {own : Own} {n n' : Nat} {r x : Role} {k : Nat} (hn : n ≤ n') (h : ext own n n' r k = some x) : k < n' := by
  unfold ext at h
  split at h
  · omega
  · split at h
    · assumption
    · cases h
theorem ext_new {own : Own} {n n' : Nat} {r : Role} {k : Nat} (hk : k < n) (h : own k = none) : ext own n n' r k = none := by
  unfold ext; rw [if_pos hk]; exact h
theorem ext_role {own : Own} {n n' : Nat} {r : Role} {k : Nat} (h : (own k = some r ∨ n ≤ k) ∧ k < n') (hl : ∀ k r, own k = some r → k < n) : ext own n n' r k = some r := by
  rcases h with ⟨h | h, h'⟩
  · exact ext_old hl h
  · unfold ext; rw [if_neg (by omega), if_pos h']

theorem cell_row {W w5 : World} {row : Option Nat} {p : Addr} {v : Value} (hg : W.grownBy w5 row) (hc : W.cell? p = some v) (hne : some p.block ≠ row) : w5.cell? p = some v := by
  rw [World.cell?_of_block (hg.block p.block (World.block_lt_of_cell? W p hc) hne)]; exact hc
theorem frozen_row {W w5 : World} {row : Option Nat} {p : Addr} {v : Value} (hg : W.grownBy w5 row) (hc : W.cell? p = some v) (hf : W.frozen? p = false) (hne : some p.block ≠ row) : w5.frozen? p = false := by
  rw [World.frozen?_of_block (hg.block p.block (World.block_lt_of_cell? W p hc) hne)]; exact hf
/-- Behind the note of a change: all but the disk's own block and the changes is as it was. -/
def Mid (own : Own) (w : World) (kd kn ks : Nat) (d : Dk) (cs : List C99) (wx : World) : Prop :=
  ∃ A1 c1, w.heap.size ≤ wx.heap.size ∧ (wx.os = w.os ∧ wx.tape = w.tape ∧ wx.output = w.output) ∧ (∀ k, k < w.heap.size → k ≠ kd → own k ≠ some .changes → wx.heap[k]? = w.heap[k]?) ∧
    wx.heap[kd]? = some (.cells (cells d kn ks (.slice A1 cs.length c1)) 81 (0, 0)) ∧ Kd.R kC 99 wx 0 (fun k => ext own w.heap.size wx.heap.size .changes k = some .changes) (.slice A1 cs.length c1) cs
theorem mid_mk {own : Own} {w wb w5 : World} {kd kn ks : Nat} {d : Dk} {vc : Value} {cs : List C99} {A1 : Option Addr} {c1 : Nat} (hl : ∀ k r, own k = some r → k < w.heap.size) (hb : Below w.heap.size w wb) (hg : wb.drew.grownBy w5 vc.ownBlock)
    (hrow : ∀ k, vc.ownBlock = some k → own k = some .changes) (hdk : own kd = some .disk) (hb0 : w.heap[kd]? = some (.cells (cells d kn ks vc) 81 (0, 0)))
    (ho : Kd.R kC 99 w5 0 (fun k => own k = some .changes ∨ w.heap.size ≤ k) (.slice A1 cs.length c1) cs) : Mid own w kd kn ks d cs (w5.setCell ⟨kd, 4, none⟩ (.slice A1 cs.length c1)) := by
  have hkd := blk_lt hb0
  have h5 : ∀ k, k < w.heap.size → own k ≠ some .changes → w5.heap[k]? = w.heap[k]? := fun k hk hn =>
    (hg.block k (Nat.lt_of_lt_of_le hk hb.size) (fun e => hn (hrow k e.symm))).trans (hb.block k hk)
  have hsz : w.heap.size ≤ w5.heap.size := Nat.le_trans hb.size hg.size
  refine ⟨A1, c1, by simpa using hsz, ⟨hg.os.trans hb.os, hg.tape.trans hb.tape, hg.output.trans hb.output⟩, fun k hk hne hn => (Below.heap_setCell _ _ _ k hne).trans (h5 k hk hn), ?_, ?_⟩
  · exact blk_put ((h5 kd hkd (by rw [hdk]; simp)).trans hb0) 4 _ (by simp [cells])
  · have h1 := Kd.R_far (Kd.R_bound ho) (p := ⟨kd, 4, none⟩) (fun k hk e => by
      have e' : k = kd := e
      rcases hk.1 with h | h
      · rw [e', hdk] at h; cases h
      · omega) (.slice A1 cs.length c1)
    refine Kd.R_mono h1 (fun k hk => ?_)
    have hk2 := hk.2.2.1
    exact ext_role ⟨hk.1, by simpa using hk2⟩ hl
theorem ext_mono {own : Own} {n n1 n2 : Nat} {r x : Role} {k : Nat} (hn : n1 ≤ n2) (h : ext own n n1 r k = some x) : ext own n n2 r k = some x := by
  unfold ext at h ⊢
  split
  · rename_i hk; rw [if_pos hk] at h; exact h
  · rename_i hk; rw [if_neg hk] at h
    split at h
    · rename_i h2; rw [if_pos (by omega)]; exact h
    · cases h
theorem change_rep {own : Own} {w wc w6 : World} {kd kn ks : Nat} {blk : Nat → Nat} {d : Dk} {x : Ch} {kv6 : KV} (h : Rep own w kd blk d) (o1 : own kn = some .names) (o2 : own ks = some .sure) (b2 : MapIs w ks d.sure blk)
    (hmid : Mid own w kd kn ks d (d.changes.map (encC blk) ++ [encC blk x]) wc) (hg6 : wc.drew.grownBy w6 (some kn)) (hm6 : SMap w6 kn kv6) (hkv6 : KvIs kv6 (chplay d.names [x]) blk) :
    Rep (ext own w.heap.size w6.heap.size .changes) w6 kd blk (d.change x) ∧ Fr own (ext own w.heap.size w6.heap.size .changes) w w6 := by
  obtain ⟨A1, c1, hsz, hmisc, hsame, hblk, hR1⟩ := hmid
  have hsz6 : wc.heap.size ≤ w6.heap.size := hg6.size
  have hkn : kn ≠ kd := fun e => by rw [e, h.dk] at o1; cases o1
  have hkd := h.lt _ _ h.dk
  have keep : ∀ k r, own k = some r → r ≠ .disk → r ≠ .changes → r ≠ .names → w6.heap[k]? = w.heap[k]? := fun k r hk h1 h2 h3 => by
    have hlt := h.lt k r hk
    refine (hg6.block k (Nat.lt_of_lt_of_le hlt hsz) (fun e => h3 ?_)).trans (hsame k hlt (fun e => h1 ?_) (fun e => h2 ?_))
    · rw [Option.some.inj e, o1] at hk; exact (Option.some.inj hk).symm
    · rw [e, h.dk] at hk; exact (Option.some.inj hk).symm
    · rw [e] at hk; exact (Option.some.inj hk).symm
  have old : ∀ k r, own k = some r → ext own w.heap.size w6.heap.size .changes k = some r := fun k r hk => ext_old h.lt hk
  constructor
  · refine ⟨fun k r hk => ext_lt (Nat.le_trans hsz hsz6) hk, old _ _ h.dk, fun f hf => old _ _ (h.fl f hf), ⟨kn, ks, .slice A1 (d.changes.map (encC blk) ++ [encC blk x]).length c1, old _ _ o1, old _ _ o2, ?_, ⟨kv6, hm6, hkv6⟩, b2.move (keep ks _ o2 (by simp) (by simp) (by simp)), ?_⟩, fun f hf => ?_⟩
    · exact (hg6.block kd (Nat.lt_of_lt_of_le hkd hsz) (fun e => hkn (Option.some.inj e).symm)).trans hblk
    · have e : (d.change x).changes.map (encC blk) = d.changes.map (encC blk) ++ [encC blk x] := by simp [Dk.change]
      rw [e]
      refine Kd.R_mono (Kd.R_step hR1 (fun k hk hlt => hg6.block k hlt (fun e => ?_))) (fun k hk => ext_mono hsz6 hk)
      have hk' : ext own w.heap.size wc.heap.size .changes k = some .changes := hk
      rw [Option.some.inj e, ext_old h.lt o1] at hk'
      cases hk'
    · obtain ⟨vk, vu, vs, h0, h1, h2, h3⟩ := h.files f hf
      exact ⟨vk, vu, vs, (keep _ _ (h.fl f hf) (by simp) (by simp) (by simp)).trans h0, Kd.R_mono (Kd.R_step h1 (fun k hk _ => keep k _ hk (by simp) (by simp) (by simp))) (fun k hk => old k _ hk),
        Kd.R_mono (Kd.R_step h2 (fun k hk _ => keep k _ hk (by simp) (by simp) (by simp))) (fun k hk => old k _ hk), Kd.R_mono (Kd.R_step h3 (fun k hk _ => keep k _ hk (by simp) (by simp) (by simp))) (fun k hk => old k _ hk)⟩
  · refine ⟨hg6.os.trans hmisc.1, hg6.tape.trans hmisc.2.1, hg6.output.trans hmisc.2.2, Nat.le_trans hsz hsz6, fun k hk hn => ?_, fun k hk hn => ext_new hk hn⟩
    exact (hg6.block k (Nat.lt_of_lt_of_le hk hsz) (fun e => by rw [Option.some.inj e, o1] at hn; cases hn)).trans (hsame k hk (fun e => by rw [e, h.dk] at hn; cases hn) (by rw [hn]; simp))
set_option maxRecDepth 100000 in
set_option maxHeartbeats 4000000 in
theorem change_walk (own : Own) (w : World) (kd : Nat) (blk : Nat → Nat) (d : Dk) (h : Rep own w kd blk d) (x : Ch) (hx : x.ok d.names) (hs : Srt d.names) (hl : d.changes.length ≤ 1000000000) :
    Calls Try.prog 57 #[ptr kd, .agg #[.int .i64 (encC blk x).what, .string (encC blk x).a, .string (encC blk x).b, .pointer (encC blk x).p]] w fun e w' => e = .returned (.tuple #[]) ∧ ∃ own', Rep own' w' kd blk (d.change x) ∧ Fr own own' w w' := by
  obtain ⟨kn, ks, vc, o1, o2, b0, b1, b2, b3⟩ := h.body
  obtain ⟨y, hy⟩ : ∃ y, encC blk x = y := ⟨_, rfl⟩
  have hR : Kd.R kC 99 w 0 (fun k => own k = some .changes ∨ w.heap.size ≤ k) vc (d.changes.map (encC blk)) := Kd.R_mono b3 (fun k hk => .inl hk)
  have hlen : (d.changes.map (encC blk)).length = d.changes.length := List.length_map ..
  obtain ⟨cs, hcs⟩ : ∃ cs, d.changes.map (encC blk) = cs := ⟨_, rfl⟩
  rw [hcs] at hR hlen
  have c2 := blk_cell b0 2
  have c4 := blk_cell b0 4
  have f4 := blk_frozen b0 4
  simp at c2 c4
  have hne : some kd ≠ vc.ownBlock := fun e => by have h1 : own kd = some .changes := b3.1 kd e.symm; rw [h.dk] at h1; cases h1
  have hnb : some w.heap.size ≠ vc.ownBlock := fun e => by have h1 := h.lt _ _ (b3.1 _ e.symm); omega
  have HROW := Lib.hid (show ∀ k, vc.ownBlock = some k → own k = some .changes from b3.1)
  have HR := Lib.hid hR
  have HH := Lib.hid h
  have HB0 := Lib.hid b0
  have HY := Lib.hid hy
  have HCS := Lib.hid hcs
  have HO := Lib.hid (And.intro o1 o2)
  have HB1 := Lib.hid b1
  have HB2 := Lib.hid b2
  have hkd := blk_lt b0
  rw [hy]
  clear h b0 b1 b2 b3 hR hy hcs o1 o2
  unfold ptr
  go_enter Try.func57, Try.ntmps57
  go_wp2_with fail
  obtain ⟨wb, hwb⟩ : ∃ wb, w.alloc (.cells #[.int .i64 y.what, .string y.a, .string y.b, .pointer y.p] 99) = wb := ⟨_, rfl⟩
  obtain ⟨kb, hkb⟩ : ∃ kb, w.heap.size = kb := ⟨_, rfl⟩
  have hbb : Below w.heap.size w wb := hwb ▸ below_alloc (Below.refl _ _) _
  have hbk : wb.heap[kb]? = some (.cells #[.int .i64 y.what, .string y.a, .string y.b, .pointer y.p] 99 (0, 0)) := by rw [← hwb, ← hkb]; exact blk_new w _
  have hRb : Kd.R kC 99 wb 0 (fun k => own k = some .changes ∨ kb ≤ k) vc cs := by rw [← hkb]; exact Kd.R_below HR.out hbb
  have c4b : wb.cell? ⟨kd, 4, none⟩ = some vc := pw_cell_below hbb c4
  have c2b : wb.cell? ⟨kd, 2, none⟩ = some (.map (some kn)) := pw_cell_below hbb c2
  have f4b := blk_frozen (blk_below HB0.out hbb) 4
  have hszb : kb < wb.heap.size := by rw [← hwb, ← hkb]; simp
  rw [hwb, hkb]
  rw [hkb] at hnb
  have k0 := blk_cell hbk 0
  have k1 := blk_cell hbk 1
  have k2 := blk_cell hbk 2
  have k3 := blk_cell hbk 3
  simp at k0 k1 k2 k3
  have HRB := Lib.hid hRb
  have HBB := Lib.hid hbb
  have HBK := Lib.hid hbk
  have d0 : wb.drew.cell? ⟨kb, 0, none⟩ = some (.int .i64 y.what) := k0
  have d1 : wb.drew.cell? ⟨kb, 1, none⟩ = some (.string y.a) := k1
  have d2 : wb.drew.cell? ⟨kb, 2, none⟩ = some (.string y.b) := k2
  have d3 : wb.drew.cell? ⟨kb, 3, none⟩ = some (.pointer y.p) := k3
  have d4 : wb.drew.cell? ⟨kd, 4, none⟩ = some vc := c4b
  have d4a : ∀ o, (wb.drew.alloc o).cell? ⟨kd, 4, none⟩ = some vc := fun o => pw_cell_below (below_alloc (Below.refl _ _) o) d4
  have d4c : ∀ o, (wb.alloc o).cell? ⟨kd, 4, none⟩ = some vc := fun o => pw_cell_below (below_alloc (Below.refl _ _) o) c4b
  have e4 : wb.drew.frozen? ⟨kd, 4, none⟩ = false := f4b
  have HKB := Lib.hid hkb
  clear hwb c2 c4 f4 hRb hbb hbk hkb
  go_cut [] from 4 to 13 (fun wx => Mid own w kd kn ks d (cs ++ [y]) wx)
  case first =>
    go_region_law ((refine Kd.R_append_step kC (w0 := wb) (W := wb.drew) 0 (by rfl) (.tmp 8) (.tmp 10) 79 99 (.agg #[.int .i64 0, .string ⟨#[]⟩, .string ⟨#[]⟩, .pointer none]) 48 (by rfl) Try.underlying79 info99 rfl (by decide) (by omega) vc cs y [.int .i64 y.what, .string y.a, .string y.b, .pointer y.p] (fun k => own k = some .changes ∨ kb ≤ k) (fun _ => False) (by rfl) (by rfl) (kC_mkM _ _ _ y) (fun _ hk => hk.elim) (fun k hk => .inr (Nat.le_trans (Nat.le_of_lt hszb) hk)) (Kd.R_drew HRB.out) (pw_below_drewN (Below.refl _ _) 1) (Nat.zero_le _) (by omega) ?_; intro v1 w5 ho hb5 hg hat; have q4 := cell_row hg d4 hne; have qf := frozen_row hg d4 e4 hne; obtain ⟨A1, c1, rfl⟩ := Kd.R_slice ho))
    all_goals (go_wp2_with fail; go_meet)
    all_goals
      case rel =>
        have hmid := mid_mk HH.out.lt HBB.out (by assumption) HROW.out HH.out.dk HB0.out (by rw [HKB.out]; assumption)
        rw [List.length_append, hlen] at hmid
        exact hmid
  case rest =>
    obtain ⟨A1, c1, hsz, hmisc, hsame, hblk, hR1⟩ := hcut
    have c2 := blk_cell hblk 2
    have c4 := blk_cell hblk 4
    simp [cells] at c2 c4
    obtain ⟨i0, hi0, _, hsz0, _⟩ := info_parts info99
    have hcf := cut_from (P := Try.prog) 79 99 .i64 Try.underlying79 hi0 4 hsz0 A1 (d.changes.length + 1) c1 (d.changes.length : Int) (by omega) (by omega)
    have hlen2 : (cs ++ [y]).length = d.changes.length + 1 := by rw [List.length_append, hlen]; rfl
    have hrd := Kd.R_reads' hR1
    have hCd := Kd.C_drop (m := cs.length) hrd.2.2 (by simp) hrd.2.1
    rw [List.drop_left, hlen] at hCd
    rw [Int.toNat_natCast, Nat.add_sub_cancel_left] at hcf
    rw [hlen] at c4
    obtain ⟨A', hA'⟩ : ∃ A', (if c1 = d.changes.length then A1 else A1.map (·.add (d.changes.length * 4))) = A' := ⟨_, rfl⟩
    have hCd : Kd.C kC wc A' 1 [y] := hA' ▸ hCd
    rw [hA'] at hcf
    clear hA'
    obtain ⟨kv, hm, hkv⟩ := HB1.out
    have hknlt := hm.lt
    have hknd : kn ≠ kd := fun e => by have h1 := HO.out.1; rw [e, HH.out.dk] at h1; cases h1
    have hm2 : SMap wc.drew kn kv := hm.of_block (hsame kn hknlt hknd (by rw [HO.out.1]; simp))
    have HP := Lib.hid (play_walk blk [x] d.names kn A' (c1 - d.changes.length) wc.drew kv hm2 hkv hs (by rw [List.map_singleton, HY.out]; exact hCd) ⟨hx, trivial⟩ (by show 1 ≤ 2305843009213693952; omega))
    go_wp2_with fail
    have hjw : IntKind.i64.wrap (d.changes.length : Int) = (d.changes.length : Int) := by simp [IntKind.wrap, IntKind.bits, IntKind.signed]; omega
    have hj4 : (0 : Int) ≤ (d.changes.length : Int) := by omega
    have hj5 : (d.changes.length : Int) ≤ ((d.changes.length + 1 : Nat) : Int) := by omega
    go_region_held3 (fun w' => w'.cell? ⟨kd, 2, none⟩ = some (.map (some kn)) ∧ w'.cell? ⟨kd, 4, none⟩ = some (.slice A1 (d.changes.length + 1) c1)) (first | assumption | exact ⟨c2, c4⟩ | exact ⟨cell_grown hm2 (by assumption) c2, cell_grown hm2 (by assumption) c4⟩) (first | (go_at_call 46; refine HP.out.mono ?_; rintro e w6 ⟨rfl, hg6, kv6, hm6, hkv6⟩))
    go_end0
    have hmid : Mid own w kd kn ks d (d.changes.map (encC blk) ++ [encC blk x]) wc := by rw [HCS.out, HY.out]; exact ⟨A1, c1, hsz, hmisc, hsame, hblk, hR1⟩
    exact ⟨rfl, _, change_rep HH.out HO.out.1 HO.out.2 HB2.out hmid hg6 hm6 hkv6⟩
end Go.Proofs.Ytonecajkfbdnmaa.Dk

namespace Go.Proofs.Ytonecajkfbdnmaa.Dk
open Go.Lib Go.RowKit Go.ChangeMaps Go.Proofs.Ytonecajkfbdnmaa.Mp Go.Proofs.YtonecajkfbdnmaaW.PrintWords Go.Proofs.YtonecajkfbdnmaaW.PrintLast Go.Proofs.YtonecajkfbdnmaaW.PrintMore Go.Proofs.Ytonecajkfbdnmaa.PDiskRoom
set_option linter.unusedVariables false
set_option linter.unusedSimpArgs false

theorem told_walk (off : Bool) (w : World) : Calls Try.prog 58 #[.bool off] w fun e w' => e = .returned (.int .i64 ((if off then 115 else 0 : Nat) : Int)) ∧ w' = w := by
  cases off
  all_goals
    go_enter Try.func58, Try.ntmps58
    go_wp2
    go_ret
    exact ⟨rfl, rfl⟩
theorem num_walk (n : Int) (w : World) : Calls Try.prog 13 #[.int .i64 n] w fun e w' => e = .returned (.int .i64 n) ∧ w' = w := by
  go_enter Try.func13, Try.ntmps13
  go_wp2
  go_ret
  exact ⟨rfl, rfl⟩
theorem room_walk {own : Own} {w : World} {kd : Nat} {blk : Nat → Nat} {d : Dk} (h : Rep own w kd blk d) : Calls Try.prog 15 #[ptr kd] w fun e w' => e = .returned (.int .i64 (d.room : Int)) ∧ w' = w := by
  obtain ⟨kn, ks, vc, hb, _⟩ := h.disk
  have c0 := blk_cell hb 0
  simp [cells] at c0
  clear h hb
  unfold ptr
  go_enter Try.func15, Try.ntmps15
  go_wp2
  go_ret
  exact ⟨rfl, rfl⟩
theorem strokes_walk {own : Own} {w : World} {kd : Nat} {blk : Nat → Nat} {d : Dk} (h : Rep own w kd blk d) : Calls Try.prog 14 #[ptr kd] w fun e w' => e = .returned (.int .i64 (d.strokes : Int)) ∧ w' = w := by
  obtain ⟨kn, ks, vc, hb, _⟩ := h.disk
  have c5 := blk_cell hb 5
  simp [cells] at c5
  clear h hb
  unfold ptr
  go_enter Try.func14, Try.ntmps14
  go_wp2
  go_ret
  exact ⟨rfl, rfl⟩
end Go.Proofs.Ytonecajkfbdnmaa.Dk

namespace Go.Proofs.Ytonecajkfbdnmaa.Dk
open Go.Lib Go.RowKit Go.ChangeMaps Go.Proofs.Ytonecajkfbdnmaa.Mp Go.Proofs.YtonecajkfbdnmaaW.PrintWords Go.Proofs.YtonecajkfbdnmaaW.PrintLast Go.Proofs.YtonecajkfbdnmaaW.PrintMore Go.Proofs.Ytonecajkfbdnmaa.PDiskRoom
set_option linter.unusedVariables false
set_option linter.unusedSimpArgs false

theorem file_eq {d : Dk} {f : Nat} (hf : f < d.files.length) : d.files[f] = d.file f := by
  unfold Dk.file; rw [List.getD_eq_getElem?_getD, List.getElem?_eq_getElem hf]; rfl
theorem setFile_len (d : Dk) (f : Nat) (g : Fl → Fl) : (d.setFile f g).files.length = d.files.length := by simp [Dk.setFile]
theorem setFile_file (d : Dk) (f : Nat) (g : Fl → Fl) (hf : f < d.files.length) : (d.setFile f g).file f = g (d.file f) := by
  unfold Dk.file Dk.setFile
  simp [List.getD_eq_getElem?_getD, hf]
theorem setFile_other (d : Dk) (f k : Nat) (g : Fl → Fl) (hk : k ≠ f) : (d.setFile f g).file k = d.file k := by
  unfold Dk.file Dk.setFile
  have e : ¬ f = k := fun e => hk e.symm
  simp [List.getD_eq_getElem?_getD, List.getElem?_modify, e]
/-- A file's own roles. -/
def Role.of (f : Nat) (r : Role) : Prop := r = .kept f ∨ r = .units f ∨ r = .seen f
theorem Rep.upd {own : Own} {w w' : World} {kd : Nat} {blk : Nat → Nat} {d : Dk} (h : Rep own w kd blk d) {f : Nat} (hf : f < d.files.length) {ρ : Role} (hρ : ρ.of f) (g : Fl → Fl)
    (hsz : w.heap.size ≤ w'.heap.size) (hsame : ∀ k, k < w.heap.size → k ≠ blk f → own k ≠ some ρ → w'.heap[k]? = w.heap[k]?)
    (hfile : FileIs (ext own w.heap.size w'.heap.size ρ) w' f (blk f) (g (d.file f))) : Rep (ext own w.heap.size w'.heap.size ρ) w' kd blk (d.setFile f g) := by
  have old : ∀ k r, own k = some r → ext own w.heap.size w'.heap.size ρ k = some r := fun k r hk => ext_old h.lt hk
  have keep : ∀ k r, own k = some r → r ≠ .file f → r ≠ ρ → w'.heap[k]? = w.heap[k]? := fun k r hk h1 h2 =>
    hsame k (h.lt k r hk) (fun e => h1 (by rw [e, h.fl f hf] at hk; exact (Option.some.inj hk).symm)) (fun e => h2 (by rw [hk] at e; exact Option.some.inj e))
  obtain ⟨kn, ks, vc, o1, o2, b0, b1, b2, b3⟩ := h.body
  have n1 : Role.disk ≠ ρ := by rcases hρ with rfl | rfl | rfl <;> simp
  have n2 : Role.names ≠ ρ := by rcases hρ with rfl | rfl | rfl <;> simp
  have n3 : Role.sure ≠ ρ := by rcases hρ with rfl | rfl | rfl <;> simp
  have n4 : Role.changes ≠ ρ := by rcases hρ with rfl | rfl | rfl <;> simp
  refine ⟨fun k r hk => ext_lt hsz hk, old _ _ h.dk, fun k hk => old _ _ (h.fl k (by rw [setFile_len] at hk; exact hk)), ⟨kn, ks, vc, old _ _ o1, old _ _ o2, (keep _ _ h.dk (by simp) n1).trans b0, b1.move (keep _ _ o1 (by simp) n2), b2.move (keep _ _ o2 (by simp) n3), ?_⟩, fun k hk => ?_⟩
  · exact Kd.R_mono (Kd.R_step b3 (fun k hk _ => keep k _ hk (by simp) n4)) (fun k hk => old k _ hk)
  · have hk' : k < d.files.length := by rw [setFile_len] at hk; exact hk
    rw [file_eq hk]
    by_cases e : k = f
    · subst e; rw [setFile_file d k g hf]; exact hfile
    · rw [setFile_other d f k g e, ← file_eq hk']
      obtain ⟨vk, vu, vs, h0, h1, h2, h3⟩ := h.files k hk'
      have m1 : Role.kept k ≠ ρ := by rcases hρ with rfl | rfl | rfl <;> simp [e]
      have m2 : Role.units k ≠ ρ := by rcases hρ with rfl | rfl | rfl <;> simp [e]
      have m3 : Role.seen k ≠ ρ := by rcases hρ with rfl | rfl | rfl <;> simp [e]
      have m4 : Role.file k ≠ ρ := by rcases hρ with rfl | rfl | rfl <;> simp
      exact ⟨vk, vu, vs, (keep _ _ (h.fl k hk') (by simp [e]) m4).trans h0, Kd.R_mono (Kd.R_step h1 (fun j hj _ => keep j _ hj (by simp) m1)) (fun j hj => old j _ hj),
        Kd.R_mono (Kd.R_step h2 (fun j hj _ => keep j _ hj (by simp) m2)) (fun j hj => old j _ hj), Kd.R_mono (Kd.R_step h3 (fun j hj _ => keep j _ hj (by simp) m3)) (fun j hj => old j _ hj)⟩
theorem Fr.upd {own : Own} {w w' : World} {b : Nat} {ρ : Role} (hm : w'.os = w.os ∧ w'.tape = w.tape ∧ w'.output = w.output) (hsz : w.heap.size ≤ w'.heap.size) (hb : own b ≠ none) (hsame : ∀ k, k < w.heap.size → k ≠ b → own k ≠ some ρ → w'.heap[k]? = w.heap[k]?) : Fr own (ext own w.heap.size w'.heap.size ρ) w w' :=
  ⟨hm.1, hm.2.1, hm.2.2, hsz, fun k hk hn => hsame k hk (fun e => hb (e ▸ hn)) (by rw [hn]; simp), fun k hk hn => ext_new hk hn⟩
/-- A file's three rows. -/
theorem Rep.rows {own : Own} {w : World} {kd : Nat} {blk : Nat → Nat} {d : Dk} (h : Rep own w kd blk d) {f : Nat} (hf : f < d.files.length) : FileIs own w f (blk f) (d.file f) := by
  rw [← file_eq hf]; exact h.files f hf
/-- One of the three fields is written: v is its new row. -/
theorem Rep.field {own : Own} {w w1 : World} {kd : Nat} {blk : Nat → Nat} {d : Dk} (h : Rep own w kd blk d) {f : Nat} (hf : f < d.files.length) {ρ : Role} (hρ : ρ.of f) {row : Option Nat} (hg : w.grownBy w1 row) (hrow : ∀ k, row = some k → own k = some ρ)
    (j : Nat) (hj : j < 3) (v : Value) (g : Fl → Fl) {vk vu vs : Value} (hb : w.heap[blk f]? = some (.cells #[vk, vu, vs] 77 (0, 0))) (hj' : Role.of f ρ)
    (hfile : ∀ w2 : World, (∀ k, k < w.heap.size → k ≠ blk f → own k ≠ some ρ → w2.heap[k]? = w.heap[k]?) → (∀ k, k ≠ blk f → w2.heap[k]? = w1.heap[k]?) → w2.heap[blk f]? = some (.cells (#[vk, vu, vs].setIfInBounds j v) 77 (0, 0)) → w2.heap.size = w1.heap.size →
      FileIs (ext own w.heap.size w2.heap.size ρ) w2 f (blk f) (g (d.file f))) :
    Rep (ext own w.heap.size w1.heap.size ρ) (w1.setCell ⟨blk f, j, none⟩ v) kd blk (d.setFile f g) ∧ Fr own (ext own w.heap.size w1.heap.size ρ) w (w1.setCell ⟨blk f, j, none⟩ v) := by
  have nfile : Role.file f ≠ ρ := by rcases hρ with rfl | rfl | rfl <;> simp
  have hblt := blk_lt hb
  have hbr : some (blk f) ≠ row := fun e => nfile (by have := hrow _ e.symm; rw [h.fl f hf] at this; exact Option.some.inj this)
  have hb1 : w1.heap[blk f]? = some (.cells #[vk, vu, vs] 77 (0, 0)) := (hg.block _ hblt hbr).trans hb
  have hsame : ∀ k, k < w.heap.size → k ≠ blk f → own k ≠ some ρ → (w1.setCell ⟨blk f, j, none⟩ v).heap[k]? = w.heap[k]? := fun k hk hn ho =>
    (Below.heap_setCell _ _ _ k hn).trans (hg.block k hk (fun e => ho (hrow k e.symm)))
  have hz : (w1.setCell ⟨blk f, j, none⟩ v).heap.size = w1.heap.size := by simp
  have hfl := hfile (w1.setCell ⟨blk f, j, none⟩ v) hsame (fun k hn => Below.heap_setCell _ _ _ k hn) (blk_set hb1 j v) hz
  have hsz : w.heap.size ≤ (w1.setCell ⟨blk f, j, none⟩ v).heap.size := by rw [hz]; exact hg.size
  have hr := h.upd hf hρ g hsz hsame hfl
  have hf2 := Fr.upd (own := own) (w := w) (w' := w1.setCell ⟨blk f, j, none⟩ v) (b := blk f) (ρ := ρ) ⟨hg.os, hg.tape, hg.output⟩ hsz (by rw [h.fl f hf]; simp) hsame
  rw [hz] at hr hf2
  exact ⟨hr, hf2⟩
theorem Rep.units {own : Own} {w w1 : World} {kd : Nat} {blk : Nat → Nat} {d : Dk} (h : Rep own w kd blk d) {f : Nat} (hf : f < d.files.length) {vk vu vs v : Value} (hb : w.heap[blk f]? = some (.cells #[vk, vu, vs] 77 (0, 0))) (hg : w.grownBy w1 vu.ownBlock) (us : List Un)
    (hR : Kd.R kU 90 w1 0 (fun k => own k = some (.units f) ∨ w.heap.size ≤ k) v (us.map encU)) :
    Rep (ext own w.heap.size w1.heap.size (.units f)) (w1.setCell ⟨blk f, 1, none⟩ v) kd blk (d.setFile f (fun x => { x with units := us })) ∧ Fr own (ext own w.heap.size w1.heap.size (.units f)) w (w1.setCell ⟨blk f, 1, none⟩ v) := by
  obtain ⟨vk', vu', vs', h0, h1, h2, h3⟩ := h.rows hf
  rw [hb] at h0
  simp only [Option.some.injEq, Obj.cells.injEq, Array.mk.injEq, List.cons.injEq, and_true] at h0
  obtain ⟨rfl, rfl, rfl⟩ := h0
  refine h.field hf (ρ := .units f) (.inr (.inl rfl)) hg (fun k hk => h2.1 k hk) 1 (by omega) v _ hb (.inr (.inl rfl)) (fun w2 q1 q2 q3 q4 => ?_)
  have old : ∀ k r, own k = some r → ext own w.heap.size w2.heap.size (.units f) k = some r := fun k r hk => ext_old h.lt hk
  have far : ∀ k r, own k = some r → r ≠ .file f → r ≠ .units f → w2.heap[k]? = w.heap[k]? := fun k r hk n1 n2 => q1 k (h.lt k r hk) (fun e => n1 (by rw [e, h.fl f hf] at hk; exact (Option.some.inj hk).symm)) (fun e => n2 (by rw [hk] at e; exact Option.some.inj e))
  refine ⟨vk, v, vs, q3, Kd.R_mono (Kd.R_step h1 (fun j hj _ => far j _ hj (by simp) (by simp))) (fun j hj => old j _ hj), ?_, Kd.R_mono (Kd.R_step h3 (fun j hj _ => far j _ hj (by simp) (by simp))) (fun j hj => old j _ hj)⟩
  have hne : ∀ k, (own k = some (.units f) ∨ w.heap.size ≤ k) → k ≠ blk f := fun k hk e => by
    rcases hk with hk | hk
    · rw [e, h.fl f hf] at hk; cases hk
    · have := blk_lt hb; omega
  refine Kd.R_mono (Kd.R_bound (Kd.R_step hR (fun k hk _ => q2 k (hne k hk)))) (fun k hk => ext_role ⟨hk.1, hk.2.2.1⟩ h.lt)
theorem Rep.seens {own : Own} {w w1 : World} {kd : Nat} {blk : Nat → Nat} {d : Dk} (h : Rep own w kd blk d) {f : Nat} (hf : f < d.files.length) {vk vu vs v : Value} (hb : w.heap[blk f]? = some (.cells #[vk, vu, vs] 77 (0, 0))) (hg : w.grownBy w1 vs.ownBlock) (s : By)
    (hR : Kd.R kB 5 w1 0 (fun k => own k = some (.seen f) ∨ w.heap.size ≤ k) v (ints s)) :
    Rep (ext own w.heap.size w1.heap.size (.seen f)) (w1.setCell ⟨blk f, 2, none⟩ v) kd blk (d.setFile f (fun x => { x with seen := s })) ∧ Fr own (ext own w.heap.size w1.heap.size (.seen f)) w (w1.setCell ⟨blk f, 2, none⟩ v) := by
  obtain ⟨vk', vu', vs', h0, h1, h2, h3⟩ := h.rows hf
  rw [hb] at h0
  simp only [Option.some.injEq, Obj.cells.injEq, Array.mk.injEq, List.cons.injEq, and_true] at h0
  obtain ⟨rfl, rfl, rfl⟩ := h0
  refine h.field hf (ρ := .seen f) (.inr (.inr rfl)) hg (fun k hk => h3.1 k hk) 2 (by omega) v _ hb (.inr (.inr rfl)) (fun w2 q1 q2 q3 q4 => ?_)
  have old : ∀ k r, own k = some r → ext own w.heap.size w2.heap.size (.seen f) k = some r := fun k r hk => ext_old h.lt hk
  have far : ∀ k r, own k = some r → r ≠ .file f → r ≠ .seen f → w2.heap[k]? = w.heap[k]? := fun k r hk n1 n2 => q1 k (h.lt k r hk) (fun e => n1 (by rw [e, h.fl f hf] at hk; exact (Option.some.inj hk).symm)) (fun e => n2 (by rw [hk] at e; exact Option.some.inj e))
  refine ⟨vk, vu, v, q3, Kd.R_mono (Kd.R_step h1 (fun j hj _ => far j _ hj (by simp) (by simp))) (fun j hj => old j _ hj), Kd.R_mono (Kd.R_step h2 (fun j hj _ => far j _ hj (by simp) (by simp))) (fun j hj => old j _ hj), ?_⟩
  have hne : ∀ k, (own k = some (.seen f) ∨ w.heap.size ≤ k) → k ≠ blk f := fun k hk e => by
    rcases hk with hk | hk
    · rw [e, h.fl f hf] at hk; cases hk
    · have := blk_lt hb; omega
  refine Kd.R_mono (Kd.R_bound (Kd.R_step hR (fun k hk _ => q2 k (hne k hk)))) (fun k hk => ext_role ⟨hk.1, hk.2.2.1⟩ h.lt)
theorem Rep.kepts {own : Own} {w w1 : World} {kd : Nat} {blk : Nat → Nat} {d : Dk} (h : Rep own w kd blk d) {f : Nat} (hf : f < d.files.length) {vk vu vs v : Value} (hb : w.heap[blk f]? = some (.cells #[vk, vu, vs] 77 (0, 0))) (hg : w.grownBy w1 vk.ownBlock) (s : By)
    (hR : Kd.R kB 5 w1 0 (fun k => own k = some (.kept f) ∨ w.heap.size ≤ k) v (ints s)) :
    Rep (ext own w.heap.size w1.heap.size (.kept f)) (w1.setCell ⟨blk f, 0, none⟩ v) kd blk (d.setFile f (fun x => { x with kept := s })) ∧ Fr own (ext own w.heap.size w1.heap.size (.kept f)) w (w1.setCell ⟨blk f, 0, none⟩ v) := by
  obtain ⟨vk', vu', vs', h0, h1, h2, h3⟩ := h.rows hf
  rw [hb] at h0
  simp only [Option.some.injEq, Obj.cells.injEq, Array.mk.injEq, List.cons.injEq, and_true] at h0
  obtain ⟨rfl, rfl, rfl⟩ := h0
  refine h.field hf (ρ := .kept f) (.inl rfl) hg (fun k hk => h1.1 k hk) 0 (by omega) v _ hb (.inl rfl) (fun w2 q1 q2 q3 q4 => ?_)
  have old : ∀ k r, own k = some r → ext own w.heap.size w2.heap.size (.kept f) k = some r := fun k r hk => ext_old h.lt hk
  have far : ∀ k r, own k = some r → r ≠ .file f → r ≠ .kept f → w2.heap[k]? = w.heap[k]? := fun k r hk n1 n2 => q1 k (h.lt k r hk) (fun e => n1 (by rw [e, h.fl f hf] at hk; exact (Option.some.inj hk).symm)) (fun e => n2 (by rw [hk] at e; exact Option.some.inj e))
  refine ⟨v, vu, vs, q3, ?_, Kd.R_mono (Kd.R_step h2 (fun j hj _ => far j _ hj (by simp) (by simp))) (fun j hj => old j _ hj), Kd.R_mono (Kd.R_step h3 (fun j hj _ => far j _ hj (by simp) (by simp))) (fun j hj => old j _ hj)⟩
  have hne : ∀ k, (own k = some (.kept f) ∨ w.heap.size ≤ k) → k ≠ blk f := fun k hk e => by
    rcases hk with hk | hk
    · rw [e, h.fl f hf] at hk; cases hk
    · have := blk_lt hb; omega
  refine Kd.R_mono (Kd.R_bound (Kd.R_step hR (fun k hk _ => q2 k (hne k hk)))) (fun k hk => ext_role ⟨hk.1, hk.2.2.1⟩ h.lt)
/-- A file more. -/
def blkx (blk : Nat → Nat) (f b : Nat) : Nat → Nat := fun k => if k = f then b else blk k
theorem blkx_same (blk : Nat → Nat) (f b : Nat) : blkx blk f b f = b := by simp [blkx]
theorem blkx_old {blk : Nat → Nat} {f b k : Nat} (h : k < f) : blkx blk f b k = blk k := by unfold blkx; rw [if_neg (by omega)]
theorem KvIs.blk {kv : KV} {m : AM} {blk blk' : Nat → Nat} (h : KvIs kv m blk) (hs : Srt m) (he : ∀ x ∈ m, blk' x.2 = blk x.2) : KvIs kv m blk' :=
  ⟨h.1, fun k => by
    rw [h.2 k]
    cases e : aget m k with
    | none => rfl
    | some f => rw [Option.map_some, Option.map_some, he (k, f) ((mem_aget hs k f).2 e)]⟩
theorem Rep.fresh {own : Own} {w : World} {kd : Nat} {blk : Nat → Nat} {d : Dk} (h : Rep own w kd blk d) (hn : Srt d.names) (hs : Srt d.sure) (l1 : ∀ x ∈ d.names, x.2 < d.files.length) (l2 : ∀ x ∈ d.sure, x.2 < d.files.length) (l3 : ∀ n f, Ch.makes n f ∈ d.changes → f < d.files.length) :
    Rep (ext own w.heap.size (w.heap.size + 1) (.file d.files.length)) (w.alloc (.cells #[.slice none 0 0, .slice none 0 0, .slice none 0 0] 77)) kd (blkx blk d.files.length w.heap.size) d.fresh ∧
      Fr own (ext own w.heap.size (w.heap.size + 1) (.file d.files.length)) w (w.alloc (.cells #[.slice none 0 0, .slice none 0 0, .slice none 0 0] 77)) := by
  have hb : Below w.heap.size w (w.alloc (.cells #[.slice none 0 0, .slice none 0 0, .slice none 0 0] 77)) := below_alloc (Below.refl _ _) _
  have old : ∀ k r, own k = some r → ext own w.heap.size (w.heap.size + 1) (.file d.files.length) k = some r := fun k r hk => ext_old h.lt hk
  have far : ∀ k r, own k = some r → (w.alloc (.cells #[.slice none 0 0, .slice none 0 0, .slice none 0 0] 77)).heap[k]? = w.heap[k]? := fun k r hk => hb.block k (h.lt k r hk)
  obtain ⟨kn, ks, vc, o1, o2, b0, ⟨kv1, m1, i1⟩, ⟨kv2, m2, i2⟩, b3⟩ := h.body
  refine ⟨⟨fun k r hk => by simpa using ext_lt (by omega) hk, old _ _ h.dk, fun f hf => ?_, ⟨kn, ks, vc, old _ _ o1, old _ _ o2, (far _ _ h.dk).trans b0, ⟨kv1, m1.of_block (far _ _ o1), i1.blk hn (fun x hx => blkx_old (l1 x hx))⟩, ⟨kv2, m2.of_block (far _ _ o2), i2.blk hs (fun x hx => blkx_old (l2 x hx))⟩, ?_⟩, fun f hf => ?_⟩, ?_⟩
  · by_cases e : f = d.files.length
    · subst e; rw [blkx_same]; unfold ext; rw [if_neg (Nat.lt_irrefl _), if_pos (by omega)]
    · have hf' : f < d.files.length := by simp [Dk.fresh] at hf; omega
      rw [blkx_old hf']; exact old _ _ (h.fl f hf')
  · have e : d.fresh.changes.map (encC (blkx blk d.files.length w.heap.size)) = d.changes.map (encC blk) := by
      refine List.map_congr_left fun c hc => ?_
      cases c with
      | makes n f => show (⟨0, n, ⟨#[]⟩, some ⟨blkx blk d.files.length w.heap.size f, 0, none⟩⟩ : C99) = _; rw [blkx_old (l3 n f hc)]; rfl
      | _ => rfl
    rw [e]
    exact Kd.R_mono (Kd.R_step b3 (fun k hk _ => far k _ hk)) (fun k hk => old k _ hk)
  · by_cases e : f = d.files.length
    · subst e
      have e2 : d.fresh.files[d.files.length] = ⟨[], [], []⟩ := by simp [Dk.fresh]
      rw [e2, blkx_same]
      exact ⟨_, _, _, blk_new w _, Kd.R_nil _ _ _ _ _, Kd.R_nil _ _ _ _ _, Kd.R_nil _ _ _ _ _⟩
    · have hf' : f < d.files.length := by simp [Dk.fresh] at hf; omega
      have e2 : d.fresh.files[f] = d.files[f] := by simp [Dk.fresh, List.getElem_append_left hf']
      rw [e2, blkx_old hf']
      exact (h.files f hf').move (far _ _ (h.fl f hf')) far old
  · exact ⟨rfl, rfl, rfl, by simp, fun k hk _ => hb.block k hk, fun k hk hn => ext_new hk hn⟩
end Go.Proofs.Ytonecajkfbdnmaa.Dk

namespace Go.Proofs.Ytonecajkfbdnmaa.Dk
open Go.Lib Go.RowKit Go.ChangeMaps Go.Proofs.Ytonecajkfbdnmaa.Mp Go.Proofs.YtonecajkfbdnmaaW.PrintWords Go.Proofs.YtonecajkfbdnmaaW.PrintLast Go.Proofs.YtonecajkfbdnmaaW.PrintMore Go.Proofs.Ytonecajkfbdnmaa.PDiskRoom
set_option linter.unusedVariables false
set_option linter.unusedSimpArgs false

theorem find_cases (d : Dk) (n : ByteArray) : (∃ f, d.find n = (some f, 0) ∧ aget d.names n = some f ∧ d.off = false ∧ fair n = true) ∨ (d.find n = (none, 112) ∧ aget d.names n = none ∧ d.off = false ∧ fair n = true) ∨ (d.find n = (none, 111) ∧ d.off = false ∧ fair n = false) ∨ (d.find n = (none, 115) ∧ d.off = true) := by
  unfold Dk.find
  cases h1 : d.off
  · cases h2 : fair n
    · right; right; left; simp
    · cases h3 : aget d.names n with
      | none => right; left; simp
      | some f => left; exact ⟨f, by simp, rfl, rfl, rfl⟩
  · right; right; right; simp
theorem toList_ne {a b : ByteArray} (h : a ≠ b) : (a.toList == b.toList) = false := by
  rw [Go.ByteArray.toList_eq, Go.ByteArray.toList_eq, beq_eq_false_iff_ne]
  exact fun e => h (bl_inj e)
/-- What a call leaves: the disk d', and what is no disk's as it was. -/
def Left (own : Own) (w : World) (kd : Nat) (d' : Dk) (w' : World) : Prop := ∃ own' blk', Rep own' w' kd blk' d' ∧ Fr own own' w w'
theorem Left.mk {own own' : Own} {w w' : World} {kd : Nat} {blk : Nat → Nat} {d' : Dk} (h : Rep own' w' kd blk d') (hf : Fr own own' w w') : Left own w kd d' w' := ⟨own', blk, h, hf⟩
theorem below_drewN' (w : World) (m : Nat) : Below w.heap.size w (w.drewN m) := pw_below_drewN (Below.refl _ _) m
theorem Left.same {own : Own} {w w' : World} {kd : Nat} {blk : Nat → Nat} {d : Dk} (h : Rep own w kd blk d) (hb : Below w.heap.size w w') : Left own w kd d w' := ⟨own, blk, h.below hb, Fr.of_below hb⟩
/-- A call's end: the error, and the disk that is left. -/
def Ends (own : Own) (w : World) (kd : Nat) (r : Dk × Nat) (e : Ending) (w' : World) : Prop := e = .returned (.int .i64 (r.2 : Int)) ∧ Left own w kd r.1 w'
theorem told_is (d : Dk) (w : World) : Calls Try.prog 58 #[.bool d.off] w fun e w' => e = .returned (.int .i64 (d.told : Int)) ∧ w' = w := told_walk d.off w
set_option maxRecDepth 100000 in
set_option maxHeartbeats 2000000 in
theorem remove_walk (own : Own) (w : World) (kd : Nat) (blk : Nat → Nat) (d : Dk) (h : Rep own w kd blk d) (hsn : Srt d.names) (h1 : d.strokes ≤ 2305843009213693952) (h2 : d.count ≤ 2305843009213693952) (h3 : d.changes.length ≤ 1000000000) (n : ByteArray) (hn : n.size ≤ big) :
    Calls Try.prog 53 #[ptr kd, .string n] w (Ends own w kd (d.remove n)) := by
  have HF := Lib.hid (find_walk own w kd blk d h n hn)
  have HH := Lib.hid h
  clear h
  rcases find_cases d n with ⟨f, hf, hg, hoff, _⟩ | ⟨hf, _⟩ | ⟨hf, _⟩ | ⟨hf, _⟩
  · have HG := Lib.hid hg
    have hrm : d.remove n = (d.tick.change (.removes n), d.tick.told) := by unfold Dk.remove; rw [hf]
    rw [hrm]
    rw [hf] at HF
    clear hf hrm hg hoff
    unfold ptr at HF ⊢
    go_enter Try.func53, Try.ntmps53
    go_wp2_with fail
    refine HF.out.mono ?_
    rintro e w1 ⟨rfl, m, hw1⟩
    have hb1 : Below w.heap.size w w1 := hw1 ▸ below_drewN' w m
    have HB1 := Lib.hid hb1
    have HS := Lib.hid (stroke_walk own w1 kd blk d (HH.out.below hb1) h1 h2)
    clear hw1 hb1
    unfold fptr ptr
    unfold ptr at HS
    go_wp2_with fail
    refine HS.out.mono ?_
    rintro e w2 ⟨rfl, hr2, hf2⟩
    have HC := Lib.hid (change_walk own w2 kd blk d.tick hr2 (.removes n) (by rw [show d.tick.names = d.names from rfl]; exact ⟨f, HG.out⟩) hsn h3)
    have HF2 := Lib.hid hf2
    have HTO := Lib.hid (fun w => told_is d.tick w)
    clear hr2 hf2
    unfold ptr encC at HC
    go_wp2_with fail
    refine HC.out.mono ?_
    rintro e w3 ⟨rfl, own3, hr3, hf3⟩
    have HR3 := Lib.hid hr3
    have HF3 := Lib.hid hf3
    clear hr3 hf3
    go_wp2_with fail
    refine (HTO.out _).mono ?_
    rintro e w4 ⟨rfl, rfl⟩
    go_wp2_with fail
    go_ret
    exact ⟨rfl, Left.mk HR3.out ((Fr.of_below HB1.out).trans (HF2.out.trans HF3.out))⟩
  all_goals
    have hrm : d.remove n = (d, (d.find n).2) := by unfold Dk.remove; rw [hf]
    rw [hrm, hf]
    rw [hf] at HF
    clear hf hrm
    unfold ptr at HF ⊢
    go_enter Try.func53, Try.ntmps53
    go_wp2_with fail
    refine HF.out.mono ?_
    rintro e w1 ⟨rfl, m, hw1⟩
    have HB1 := Lib.hid (show Below w.heap.size w w1 from hw1 ▸ below_drewN' w m)
    clear hw1
    unfold fptr
    go_wp2_with fail
    go_ret
    exact ⟨rfl, Left.same HH.out HB1.out⟩

set_option maxRecDepth 100000 in
set_option maxHeartbeats 2000000 in
theorem rename_walk (own : Own) (w : World) (kd : Nat) (blk : Nat → Nat) (d : Dk) (h : Rep own w kd blk d) (hsn : Srt d.names) (h1 : d.strokes ≤ 2305843009213693952) (h2 : d.count ≤ 2305843009213693952) (h3 : d.changes.length ≤ 1000000000) (n t : ByteArray) (hn : n.size ≤ big) (ht : t.size ≤ big) :
    Calls Try.prog 52 #[ptr kd, .string n, .string t] w (Ends own w kd (d.rename n t)) := by
  have HF := Lib.hid (find_walk own w kd blk d h n hn)
  have HFA := Lib.hid (fun w => fair_walk t w ht)
  have HH := Lib.hid h
  clear h
  rcases find_cases d n with ⟨f, hf, hg, hoff, _⟩ | ⟨hf, _⟩ | ⟨hf, _⟩ | ⟨hf, _⟩
  · have HG := Lib.hid hg
    rw [hf] at HF
    cases hft : fair t
    · have hrm : d.rename n t = (d, 111) := by unfold Dk.rename; rw [hf]; simp [hft]
      rw [hrm]
      rw [hft] at HFA
      clear hf hrm hg hoff hft
      unfold ptr at HF ⊢
      go_enter Try.func52, Try.ntmps52
      go_wp2_with fail
      refine HF.out.mono ?_
      rintro e w1 ⟨rfl, m, hw1⟩
      have HB1 := Lib.hid (show Below w.heap.size w w1 from hw1 ▸ below_drewN' w m)
      clear hw1
      unfold fptr ptr
      go_wp2_with fail
      refine (HFA.out _).mono ?_
      rintro e w2 ⟨rfl, m2, hw2⟩
      have HB2 := Lib.hid (show Below w.heap.size w w2 from hw2 ▸ pw_below_drewN HB1.out m2)
      clear hw2
      go_wp2_with fail
      go_ret
      exact ⟨rfl, Left.same HH.out HB2.out⟩
    · rw [hft] at HFA
      by_cases hnt : n = t
      · subst hnt
        have hrm : d.rename n n = (d.tick, d.tick.told) := by unfold Dk.rename; rw [hf]; simp [hft]
        rw [hrm]
        clear hf hrm hg hoff hft
        unfold ptr at HF ⊢
        go_enter Try.func52, Try.ntmps52
        go_wp2_with fail
        refine HF.out.mono ?_
        rintro e w1 ⟨rfl, m, hw1⟩
        have HB1 := Lib.hid (show Below w.heap.size w w1 from hw1 ▸ below_drewN' w m)
        clear hw1
        unfold fptr ptr
        go_wp2_with fail
        refine (HFA.out _).mono ?_
        rintro e w2 ⟨rfl, m2, hw2⟩
        have hb2 : Below w.heap.size w w2 := hw2 ▸ pw_below_drewN HB1.out m2
        have HS := Lib.hid (stroke_walk own w2 kd blk d (HH.out.below hb2) h1 h2)
        have HB2 := Lib.hid hb2
        clear hw2 hb2
        unfold ptr at HS
        go_wp2_with fail
        refine HS.out.mono ?_
        rintro e w3 ⟨rfl, hr3, hf3⟩
        have HR3 := Lib.hid hr3
        have HF3 := Lib.hid hf3
        have HTO := Lib.hid (fun w => told_is d.tick w)
        clear hr3 hf3
        go_wp2_with fail
        refine (HTO.out _).mono ?_
        rintro e w4 ⟨rfl, rfl⟩
        go_wp2_with fail
        go_ret
        exact ⟨rfl, Left.mk HR3.out ((Fr.of_below HB2.out).trans HF3.out)⟩
      · have hrm : d.rename n t = (d.tick.change (.renames n t), d.tick.told) := by unfold Dk.rename; rw [hf]; simp [hft, hnt]
        rw [hrm]
        have hnl : (n.toList == t.toList) = false := toList_ne hnt
        have HNT := Lib.hid hnt
        clear hf hrm hg hoff hft
        unfold ptr at HF ⊢
        go_enter Try.func52, Try.ntmps52
        go_wp2_with fail
        refine HF.out.mono ?_
        rintro e w1 ⟨rfl, m, hw1⟩
        have HB1 := Lib.hid (show Below w.heap.size w w1 from hw1 ▸ below_drewN' w m)
        clear hw1
        unfold fptr ptr
        go_wp2_with fail
        refine (HFA.out _).mono ?_
        rintro e w2 ⟨rfl, m2, hw2⟩
        have hb2 : Below w.heap.size w w2 := hw2 ▸ pw_below_drewN HB1.out m2
        have HS := Lib.hid (stroke_walk own w2 kd blk d (HH.out.below hb2) h1 h2)
        have HB2 := Lib.hid hb2
        clear hw2 hb2
        unfold ptr at HS
        go_wp2_with fail
        refine HS.out.mono ?_
        rintro e w3 ⟨rfl, hr3, hf3⟩
        have HC := Lib.hid (change_walk own w3 kd blk d.tick hr3 (.renames n t) ⟨HNT.out, by rw [show d.tick.names = d.names from rfl]; exact ⟨f, HG.out⟩⟩ hsn h3)
        have HF3 := Lib.hid hf3
        have HTO := Lib.hid (fun w => told_is d.tick w)
        clear hr3 hf3
        unfold ptr encC at HC
        go_wp2_with fail
        refine HC.out.mono ?_
        rintro e w4 ⟨rfl, own4, hr4, hf4⟩
        have HR4 := Lib.hid hr4
        have HF4 := Lib.hid hf4
        clear hr4 hf4
        go_wp2_with fail
        refine (HTO.out _).mono ?_
        rintro e w5 ⟨rfl, rfl⟩
        go_wp2_with fail
        go_ret
        exact ⟨rfl, Left.mk HR4.out ((Fr.of_below HB2.out).trans (HF3.out.trans HF4.out))⟩
  · rw [hf] at HF
    cases hft : fair t
    all_goals
      have hrm : d.rename n t = (d, if fair t then 112 else 111) := by unfold Dk.rename; rw [hf]; simp [hft]
      rw [hft] at hrm
      rw [hrm]
      rw [hft] at HFA
      clear hf hrm hft
      unfold ptr at HF ⊢
      go_enter Try.func52, Try.ntmps52
      go_wp2_with fail
      refine HF.out.mono ?_
      rintro e w1 ⟨rfl, m, hw1⟩
      have HB1 := Lib.hid (show Below w.heap.size w w1 from hw1 ▸ below_drewN' w m)
      clear hw1
      unfold fptr
      go_wp2_with fail
      refine (HFA.out _).mono ?_
      rintro e w2 ⟨rfl, m2, hw2⟩
      have HB2 := Lib.hid (show Below w.heap.size w w2 from hw2 ▸ pw_below_drewN HB1.out m2)
      clear hw2
      go_wp2_with fail
      go_ret
      exact ⟨rfl, Left.same HH.out HB2.out⟩
  all_goals
    have hrm : d.rename n t = (d, (d.find n).2) := by unfold Dk.rename; rw [hf]; simp
    rw [hrm, hf]
    rw [hf] at HF
    clear hf hrm
    unfold ptr at HF ⊢
    go_enter Try.func52, Try.ntmps52
    go_wp2_with fail
    refine HF.out.mono ?_
    rintro e w1 ⟨rfl, m, hw1⟩
    have HB1 := Lib.hid (show Below w.heap.size w w1 from hw1 ▸ below_drewN' w m)
    clear hw1
    unfold fptr
    go_wp2_with fail
    go_ret
    exact ⟨rfl, Left.same HH.out HB1.out⟩
end Go.Proofs.Ytonecajkfbdnmaa.Dk

namespace Go.Proofs.Ytonecajkfbdnmaa.Dk
open Go.Lib Go.RowKit Go.ChangeMaps Go.Proofs.Ytonecajkfbdnmaa.Mp Go.Proofs.YtonecajkfbdnmaaW.PrintWords Go.Proofs.YtonecajkfbdnmaaW.PrintLast Go.Proofs.YtonecajkfbdnmaaW.PrintMore Go.Proofs.Ytonecajkfbdnmaa.PDiskRoom
set_option linter.unusedVariables false
set_option linter.unusedSimpArgs false

theorem Rep.synced {own : Own} {w w6 : World} {kd : Nat} {blk : Nat → Nat} {d : Dk} (h : Rep own w kd blk d) {kn ks : Nat} {vc : Value} (hb : w.heap[kd]? = some (.cells (cells d kn ks vc) 81 (0, 0))) {m : AM} {kv : KV} (hg : w.grownBy w6 (some ks)) (hm : SMap w6 ks kv) (hkv : KvIs kv m blk) :
    Rep own (w6.setCell ⟨kd, 4, none⟩ (.slice none 0 0)) kd blk { d with sure := m, changes := [] } ∧ Fr own own w (w6.setCell ⟨kd, 4, none⟩ (.slice none 0 0)) := by
  obtain ⟨kn', ks', vc', o1, o2, b0, b1, b2, b3⟩ := h.body
  rw [hb] at b0
  simp only [cells, Option.some.injEq, Obj.cells.injEq, Array.mk.injEq, List.cons.injEq, Value.map.injEq, and_true, true_and] at b0
  obtain ⟨rfl, rfl, rfl⟩ := b0
  have hne : kd ≠ ks := fun e => by rw [e] at h; have := h.dk; rw [o2] at this; cases this
  have hkn : kn ≠ ks := fun e => by rw [e, o2] at o1; cases o1
  have hnd : kn ≠ kd := fun e => by rw [e, h.dk] at o1; cases o1
  have keep : ∀ k r, own k = some r → r ≠ .disk → r ≠ .sure → (w6.setCell ⟨kd, 4, none⟩ (.slice none 0 0)).heap[k]? = w.heap[k]? := fun k r hk n1 n2 =>
    (Below.heap_setCell _ _ _ k (fun e => n1 (by have e' : k = kd := e; rw [e', h.dk] at hk; exact (Option.some.inj hk).symm))).trans (hg.block k (h.lt k r hk) (fun e => n2 (by rw [Option.some.inj e, o2] at hk; exact (Option.some.inj hk).symm)))
  have hkd := h.lt _ _ h.dk
  have hsz : w.heap.size ≤ (w6.setCell ⟨kd, 4, none⟩ (.slice none 0 0)).heap.size := by simpa using hg.size
  refine ⟨⟨fun k r hk => Nat.lt_of_lt_of_le (h.lt k r hk) hsz, h.dk, h.fl, ⟨kn, ks, .slice none 0 0, o1, o2, ?_, b1.move (keep _ _ o1 (by simp) (by simp)), ⟨kv, hm.of_block (Below.heap_setCell _ _ _ _ (fun e => hne (e : ks = kd).symm)), hkv⟩, Kd.R_nil _ _ _ _ _⟩, fun f hf => ?_⟩, ?_⟩
  · exact blk_put ((hg.block kd hkd (fun e => hne (Option.some.inj e))).trans hb) 4 _ (by simp [cells])
  · obtain ⟨vk, vu, vs, h0, h1, h2, h3⟩ := h.files f hf
    exact ⟨vk, vu, vs, (keep _ _ (h.fl f hf) (by simp) (by simp)).trans h0, Kd.R_step h1 (fun k hk _ => keep k _ hk (by simp) (by simp)), Kd.R_step h2 (fun k hk _ => keep k _ hk (by simp) (by simp)), Kd.R_step h3 (fun k hk _ => keep k _ hk (by simp) (by simp))⟩
  · refine ⟨hg.os, hg.tape, hg.output, hsz, fun k hk hn => (Below.heap_setCell _ _ _ k (fun e => ?_)).trans (hg.block k hk (fun e => ?_)), fun k _ hn => hn⟩
    · have e' : k = kd := e
      rw [e', h.dk] at hn; cases hn
    · rw [Option.some.inj e, o2] at hn; cases hn

theorem grown_drew {w w' : World} {row : Option Nat} (h : w.drew.grownBy w' row) : w.grownBy w' row := ⟨h.os, h.tape, h.output, h.size, h.block⟩
set_option maxRecDepth 100000 in
set_option maxHeartbeats 2000000 in
theorem syncNames_walk (own : Own) (w : World) (kd : Nat) (blk : Nat → Nat) (d : Dk) (h : Rep own w kd blk d) (hss : Srt d.sure) (hok : ChOk d.sure d.changes) (h1 : d.strokes ≤ 2305843009213693952) (h2 : d.count ≤ 2305843009213693952) (h3 : d.changes.length ≤ 1000000000) :
    Calls Try.prog 51 #[ptr kd] w (Ends own w kd d.syncNames) := by
  have HH := Lib.hid h
  obtain ⟨kn, ks, vc, hb, _⟩ := h.disk
  have c1 := blk_cell hb 1
  simp [cells] at c1
  have HS := Lib.hid (stroke_walk own w kd blk d h h1 h2)
  clear h hb
  unfold Dk.syncNames
  unfold ptr at HS ⊢
  cases hoff : d.off
  · rw [hoff] at c1
    rw [if_neg (by simp)]
    cases hto : d.tick.off
    · rw [if_neg (by simp)]
      rw [hto] at HS
      have hto2 : d.tick.told = 0 := by unfold Dk.told; rw [hto]; rfl
      have HT2 := Lib.hid hto2
      have HTT := Lib.hid hto
      clear hto hto2 hoff
      go_enter Try.func51, Try.ntmps51
      go_wp2_with fail
      refine HS.out.mono ?_
      rintro e w1 ⟨rfl, hr1, hf1⟩
      obtain ⟨kn1, ks1, vc1, o1, o2, b0, b1, ⟨kv2, m2, i2⟩, b3⟩ := hr1.body
      obtain ⟨A, c, rfl⟩ := Kd.R_slice b3
      have hrd := (Kd.R_reads' b3).2.2
      rw [List.length_map] at b0
      have c3 := blk_cell b0 3
      have c4 := blk_cell b0 4
      simp at c3 c4
      have hp : ∀ wx, wx = w1 ∨ wx = w1.drew → Calls Try.prog 46 #[.map (some ks1), .slice A d.tick.changes.length c] wx fun e w' => e = .returned (.tuple #[]) ∧ wx.grownBy w' (some ks1) ∧ ∃ kv', SMap w' ks1 kv' ∧ KvIs kv' (chplay d.tick.sure d.tick.changes) blk := fun wx hx => by
        refine play_walk blk d.tick.changes d.tick.sure ks1 A c wx kv2 ?_ i2 hss ?_ hok (by unfold big; show d.changes.length ≤ _; omega)
        · rcases hx with rfl | rfl
          · exact m2
          · exact m2.of_block rfl
        · rcases hx with rfl | rfl
          · exact hrd
          · exact Kd.C_below hrd (pw_below_drewN (Below.refl _ _) 1)
      have HR1 := Lib.hid hr1
      have HF1 := Lib.hid hf1
      have HB0 := Lib.hid b0
      have HP := Lib.hid hp
      have HO := Lib.hid (And.intro hr1.dk o2)
      have hne : kd ≠ ks1 := fun e => by have := hr1.dk; rw [e, o2] at this; cases this
      have HNE := Lib.hid hne
      have hnr : some kd ≠ some ks1 := fun e => hne (Option.some.inj e)
      have d3 : w1.drew.cell? ⟨kd, 3, none⟩ = some (.map (some ks1)) := c3
      have d4 : w1.drew.cell? ⟨kd, 4, none⟩ = some (.slice A d.tick.changes.length c) := c4
      have hlt := blk_lt b0
      have HLT := Lib.hid hlt
      clear hr1 hf1 o1 o2 b0 b1 m2 i2 b3 hrd hp hne hlt
      go_wp2_with fail
      go_region_held3 (fun w' => w'.cell? ⟨kd, 3, none⟩ = some (.map (some ks1)) ∧ w'.cell? ⟨kd, 4, none⟩ = some (.slice A d.tick.changes.length c)) (first | assumption | exact ⟨c3, c4⟩ | exact ⟨cell_row (by assumption) d3 hnr, cell_row (by assumption) d4 hnr⟩) (first | (go_at_call 46; refine (HP.out _ (.inr rfl)).mono ?_; rintro e w6 ⟨rfl, hg6, kv6, hm6, hkv6⟩))
      have hb6 := (hg6.block kd HLT.out hnr).trans HB0.out
      have g4 := blk_cell hb6 4
      have f4 := blk_frozen hb6 4
      simp at g4
      have HG6 := Lib.hid (grown_drew hg6)
      have HM6 := Lib.hid hm6
      have HK6 := Lib.hid hkv6
      clear hb6 hg6 hm6 hkv6 d3 d4 c3 c4
      have HTO := Lib.hid (told_walk false)
      go_wp2_with fail
      refine (HTO.out _).mono ?_
      rintro e w7 ⟨rfl, rfl⟩
      go_wp2_with fail
      go_ret
      have hz := HR1.out.synced HB0.out HG6.out HM6.out HK6.out
      exact ⟨by rw [HT2.out]; rfl, Left.mk hz.1 (HF1.out.trans hz.2)⟩
    · rw [if_pos rfl]
      rw [hto] at HS
      have hto2 : d.tick.told = 115 := by unfold Dk.told; rw [hto]; rfl
      have HT2 := Lib.hid hto2
      clear hto hto2 hoff
      go_enter Try.func51, Try.ntmps51
      go_wp2_with fail
      refine HS.out.mono ?_
      rintro e w1 ⟨rfl, hr1, hf1⟩
      have HR1 := Lib.hid hr1
      have HF1 := Lib.hid hf1
      have HTO := Lib.hid (told_walk true)
      clear hr1 hf1
      go_wp2_with fail
      refine (HTO.out _).mono ?_
      rintro e w7 ⟨rfl, rfl⟩
      go_wp2_with fail
      go_ret
      exact ⟨by rw [HT2.out]; rfl, Left.mk HR1.out HF1.out⟩
  · rw [hoff] at c1
    rw [if_pos rfl]
    go_enter Try.func51, Try.ntmps51
    go_wp2_with fail
    go_ret
    exact ⟨rfl, Left.same HH.out (Below.refl _ _)⟩

/-! ### Size and Plan -/
def Dk.size (d : Dk) (n : ByteArray) : Nat × Nat :=
  match d.find n with
  | (some f, _) => ((d.file f).seen.length, 0)
  | (none, e) => (0, e)
set_option maxRecDepth 100000 in
set_option maxHeartbeats 2000000 in
theorem size_walk (own : Own) (w : World) (kd : Nat) (blk : Nat → Nat) (d : Dk) (h : Rep own w kd blk d) (hlt : ∀ x ∈ d.names, x.2 < d.files.length) (hsn : Srt d.names) (n : ByteArray) (hn : n.size ≤ big) :
    Calls Try.prog 18 #[ptr kd, .string n] w fun e w' => e = .returned (.tuple #[.int .i64 ((d.size n).1 : Int), .int .i64 ((d.size n).2 : Int)]) ∧ ∃ m, w' = w.drewN m := by
  have HF := Lib.hid (find_walk own w kd blk d h n hn)
  have HH := Lib.hid h
  clear h
  rcases find_cases d n with ⟨f, hf, hg, _⟩ | ⟨hf, _⟩ | ⟨hf, _⟩ | ⟨hf, _⟩
  · have hrm : d.size n = ((d.file f).seen.length, 0) := by unfold Dk.size; rw [hf]
    have hfl : f < d.files.length := hlt (n, f) ((mem_aget hsn n f).2 hg)
    rw [hrm]
    rw [hf] at HF
    obtain ⟨vk, vu, A, c, hb, hc, _⟩ := HH.out.seen f hfl
    have HB := Lib.hid hb
    clear hf hrm hg hb hc hfl
    unfold ptr at HF ⊢
    go_enter Try.func18, Try.ntmps18
    go_wp2_with fail
    refine HF.out.mono ?_
    rintro e w1 ⟨rfl, m, hw1⟩
    have hb1 : Below w.heap.size w w1 := hw1 ▸ below_drewN' w m
    have c2 := blk_cell (blk_below HB.out hb1) 2
    simp at c2
    have HW1 := Lib.hid hw1
    clear hw1 hb1
    unfold fptr ptr
    go_wp2_with fail
    go_ret2
    exact ⟨rfl, m, HW1.out⟩
  all_goals
    have hrm : d.size n = (0, (d.find n).2) := by unfold Dk.size; rw [hf]
    rw [hrm, hf]
    rw [hf] at HF
    clear hf hrm
    unfold ptr at HF ⊢
    go_enter Try.func18, Try.ntmps18
    go_wp2_with fail
    refine HF.out.mono ?_
    rintro e w1 ⟨rfl, m, hw1⟩
    have HW1 := Lib.hid hw1
    clear hw1
    unfold fptr
    go_wp2_with fail
    go_ret2
    exact ⟨rfl, m, HW1.out⟩
end Go.Proofs.Ytonecajkfbdnmaa.Dk
