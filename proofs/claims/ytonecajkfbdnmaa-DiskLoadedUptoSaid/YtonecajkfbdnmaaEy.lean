/- The walk of the law DiskFull. -/
import Derived.Test.YtonecajkfbdnmaaEv
namespace Go.Proofs.Ytonecajkfbdnmaa.Dk
open Go.Lib Go.RowKit Go.ChangeMaps Go.Proofs.Ytonecajkfbdnmaa.Mp Go.Proofs.YtonecajkfbdnmaaW.PrintWords Go.Proofs.YtonecajkfbdnmaaW.PrintLast Go.Proofs.YtonecajkfbdnmaaW.PrintMore Go.Proofs.Ytonecajkfbdnmaa.PDiskRoom Go.Proofs.Ytonecajkfbdnmaa.Dw
set_option linter.unusedVariables false
set_option linter.unusedSimpArgs false

abbrev endOp : S58 := ⟨1, 0, 0, ⟨#[122]⟩, ⟨#[]⟩, [101, 110, 100], ⟨0, 0, 0⟩, []⟩
theorem endOp_ok : OpOk endOp := ⟨rfl, by decide, by unfold big; decide, by unfold big; decide, by decide⟩
theorem On.crash_len {d : Dk} {B : Nat} (h : On d B) (r : List Int) : ∀ y ∈ d.crash r, y.2.length ≤ 2 * B := fun y hy => by
  unfold Dk.crash at hy
  obtain ⟨x, hx, k, rfl⟩ := crash_mem d _ _ y hy
  have hlt := (h.inv.pre _).lt x hx
  have h1 := unplay_len ((d.file x.2).units.take k) (d.file x.2).kept
  have h2 := h.bd.units _ hlt
  have h3 := h.bd.kept _ hlt
  have h4 := List.length_take_le' k (d.file x.2).units
  show (unplay (d.file x.2).kept ((d.file x.2).units.take k)).length ≤ _
  omega
theorem img_keep {w w' : World} {A : Option Addr} {c : Nat} {a : Img} (h : Kd.C k28 w A a.length (a.map encF) ∧ a.length ≤ c) (hb : Below w.heap.size w w') : Kd.C k28 w' A a.length (a.map encF) ∧ a.length ≤ c := ⟨Kd.C_below h.1 hb, h.2⟩
/-- An image that was told in new memory. -/
def Rows (I : Img) (W : World) (e : Ending) (w' : World) : Prop := ∃ A c, e = .returned (.slice A I.length c) ∧ (Kd.C k28 w' A I.length (I.map encF) ∧ I.length ≤ c) ∧ Below W.heap.size W w'
theorem rows_of {f : FuncId} {args : Array Value} {W : World} {X I : Img} (hX : X = I) (h : Calls Try.prog f args W fun e w' => ∃ v, e = .returned v ∧ Kd.R k28 28 w' W.heap.size (fun k => W.heap.size ≤ k) v (X.map encF) ∧ Below W.heap.size W w') : Calls Try.prog f args W (Rows I W) := by
  subst hX
  refine h.mono ?_
  rintro e w' ⟨v, rfl, hr, hb⟩
  obtain ⟨A, c, rfl⟩ := Kd.R_slice hr
  rw [List.length_map] at hr
  exact ⟨A, c, by rw [List.length_map], R_img hr, hb⟩
theorem seen_on {own : Own} {w : World} {kd : Nat} {blk : Nat → Nat} {d : Dk} {B : Nat} {I : Img} (h : Rep own w kd blk d) (ho : On d B) (hB : B ≤ 1000000000) (hI : d.image = I) : Calls Try.prog 25 #[.pointer (some ⟨kd, 0, none⟩)] w (Rows I w) :=
  rows_of hI (seen_walk own w kd blk d h ho.inv.ok ho.inv.fa _ ho.bd hB ho.off)
/-- The world behind the constant bytes; the blocks that hold the steps' bytes. -/
abbrev wEnd (w7 : World) : World := w7.alloc (.cells #[.int .u8 101, .int .u8 110, .int .u8 100] 5 (3, 4))
abbrev PEnd (w0 w7 : World) : Nat → Prop := fun k => k < w0.heap.size ∨ k = w7.heap.size
abbrev endCells (w7 : World) : List Value := [.int .i64 1, .int .i64 0, .int .i64 0, .string ⟨#[122]⟩, .string ⟨#[]⟩, .slice (some ⟨w7.heap.size, 0, none⟩) 3 3, .int .i64 0, .int .i64 0, .int .i64 0, .slice none 0 0]
theorem end_M (w0 w7 : World) (base : Nat) (ok : Nat → Prop) : (kQ (wEnd w7) (PEnd w0 w7)).M (wEnd w7) base ok endOp (endCells w7) := by
  have hC : Kd.C kB (wEnd w7) (some ⟨w7.heap.size, 0, none⟩) 3 [101, 110, 100] := (Out.new (own := fun _ => none) (xs := [101, 110, 100]) (fun _ _ h => by cases h) rfl (by decide)).1
  refine ⟨some ⟨w7.heap.size, 0, none⟩, 3, none, 0, rfl, by decide, hC, by decide, fun ad he hn => ?_⟩
  obtain rfl := Option.some.inj he
  exact .inr rfl
theorem end_R {w0 w7 : World} {base : Nat} {ok : Nat → Prop} {v : Value} {xs : List S58} (hb : Below w0.heap.size w0 w7) (h : Kd.R (kO w0) 58 w7 base ok v xs) : Kd.R (kQ (wEnd w7) (PEnd w0 w7)) 58 (wEnd w7) base ok v xs :=
  Kd.R_below (R_kQ (below_alloc hb _) (fun k hk => .inl hk) h) (below_alloc (Below.refl _ _) _)
set_option maxRecDepth 100000 in
set_option maxHeartbeats 16000000 in
theorem diskFull_walk (w0 : World) (A1 : Option Addr) (c1 : Nat) (l1 : List S58) (off : Int) (A2 : Option Addr) (c2 : Nat) (l2 : List Int) (A3 : Option Addr) (c3 : Nat) (l3 : List S58) (A4 : Option Addr) (c4 : Nat) (l4 : List Int)
    (hC1 : Kd.C k58 w0 A1 l1.length l1) (hl1 : l1.length ≤ 1000000000000000) (ho1 : ∀ o ∈ l1, OpPre o)
    (hC2 : Kd.C (Kd.int .i64) w0 A2 l2.length l2) (hlc2 : l2.length ≤ c2) (hp2 : ∀ x ∈ l2, -9223372036854775808 ≤ x ∧ x ≤ 9223372036854775807) :
    Calls Try.prog 6 #[.agg #[.slice A1 l1.length c1, .int .i64 off, .slice A2 l2.length c2, .slice A3 l3.length c3, .slice A4 l4.length c4]] w0 fun e w' => e = .returned (.bool true) ∧ Below w0.heap.size w0 w' := by
  obtain ⟨hf1, hf2⟩ := within_bd off 20 (by omega) (by omega)
  obtain ⟨f, hf⟩ : ∃ f : Nat, withinI off 20 = (f : Int) := ⟨(withinI off 20).toNat, by omega⟩
  have HWF := Lib.hid (fun w => within_walk off 20 w (by omega) (by omega))
  obtain ⟨hg1, hg2⟩ := within_bd (l4.length : Int) 5 (by omega) (by omega)
  obtain ⟨g, hg⟩ : ∃ g : Nat, withinI (l4.length : Int) 5 = (g : Int) := ⟨(withinI (l4.length : Int) 5).toNat, by omega⟩
  have HWG := Lib.hid (fun w => within_walk (l4.length : Int) 5 w (by omega) (by omega))
  rw [hf] at HWF hf2
  rw [hg] at HWG hg2
  have hf20 : f < 20 := by omega
  have hg5 : g < 5 := by omega
  have HF1 := Lib.hid (fun w (hb : Below w0.heap.size w0 w) => few_walk w0 w hb A1 c1 l1 hC1 hl1)
  have HO1 := Lib.hid (fun (o : S58) (h : o ∈ fewOps l1) => few_op ho1 h)
  have HCR := Lib.hid (fun (own : Own) (w : World) (kd : Nat) (blk : Nat → Nat) (d : Dk) (h : Rep own w kd blk d) (B : Nat) (ho : On d B) (hB : B ≤ 1000000000) (hb : Below w0.heap.size w0 w) => crash_walk own w kd blk d h ho.inv B ho.bd hB w0 hb A2 c2 l2 hC2 hlc2 hp2)
  have HOW := Lib.hid open_walk
  clear hC1 hC2 ho1 hp2 hlc2 hf hg hf1 hf2 hg1 hg2 hl1
  go_enter Try.func6, Try.ntmps6
  go_upto_region 1 with (fail)
  obtain ⟨wb, hwb⟩ : ∃ wb, w0.alloc (.cells #[.slice A1 l1.length c1, .int .i64 off, .slice A2 l2.length c2, .slice A3 l3.length c3, .slice A4 l4.length c4] 65) = wb := ⟨_, rfl⟩
  obtain ⟨H0, hH0⟩ : ∃ H, w0.heap.size = H := ⟨_, rfl⟩
  have hbb : Below w0.heap.size w0 wb := hwb ▸ below_alloc (Below.refl _ _) _
  have hnb : wb.heap[H0]? = some (.cells #[.slice A1 l1.length c1, .int .i64 off, .slice A2 l2.length c2, .slice A3 l3.length c3, .slice A4 l4.length c4] 65 (0, 0)) := by rw [← hwb, ← hH0]; exact blk_new w0 _
  have hszb : H0 < wb.heap.size := by rw [← hwb, ← hH0]; simp
  rw [hwb, hH0]
  have HBB := Lib.hid hbb
  have HH0 := Lib.hid hH0
  have HNB := Lib.hid hnb
  clear hwb hbb hnb hH0
  go_wp2_with fail
  refine (HOW.out _).mono ?_
  rintro e w2 ⟨ka, oa0, ba0, rfl, hr2, hb2, hn2⟩
  unfold ptr
  go_wp2_with fail
  refine (HOW.out _).mono ?_
  rintro e w3 ⟨kb, ob0, bb0, rfl, hr3, hb3, hn3⟩
  unfold ptr
  have htwo : Two w3 ka kb (Dk.new 67108864) (Dk.new 67108864) oa0 ob0 ba0 bb0 := ⟨hr2.below hb3, hr3, fun k r hk => by
    have h1 := hr2.lt k r hk
    cases e : ob0 k with
    | none => rfl
    | some x => have := hn3 k x e; omega⟩
  have hown0 : ∀ k, k < wb.heap.size → both oa0 ob0 k = none := fun k hk => both_none.2 ⟨by
    cases e : oa0 k with
    | none => rfl
    | some x => have := hn2 k x e; omega, by
    cases e : ob0 k with
    | none => rfl
    | some x => have h1 := hn3 k x e; have h2 := hb2.size; omega⟩
  have hb03 : Below wb.heap.size wb w3 := hb2.trans (hb3.mono hb2.size)
  have HTWO := Lib.hid htwo
  have HOWN0 := Lib.hid hown0
  have HB03 := Lib.hid hb03
  have hbox := blk_below HNB.out hb03
  have n1 := blk_cell hbox 1
  simp at n1
  have HBOX3 := Lib.hid hbox
  clear hr2 hb2 hn2 hr3 hb3 hn3 htwo hown0 hb03 hbox
  go_upto_region 5 with (first | (go_at_call 22; refine (HWF.out _).mono ?_; rintro e w4 ⟨rfl, q4, hw4⟩; have HB4 := Lib.hid (hw4 ▸ below_drewN' _ q4); clear hw4))
  have hbox := blk_below HBOX3.out HB4.out
  have n4 := blk_cell hbox 4
  simp at n4
  clear n1
  have HBOX4 := Lib.hid hbox
  clear hbox
  go_upto_region 6 with (first | (go_at_call 22; refine (HWG.out _).mono ?_; rintro e w5 ⟨rfl, q5, hw5⟩; have HB5 := Lib.hid (hw5 ▸ below_drewN' _ q5); clear hw5))
  obtain ⟨fr, hfr⟩ : ∃ fr : Nat, 1 + f = fr := ⟨_, rfl⟩
  obtain ⟨to_, hto⟩ : ∃ t : Nat, 1 + f + g = t := ⟨_, rfl⟩
  have hfr1 : (1 : Int) + (f : Int) = (fr : Int) := by omega
  have hto1 : (fr : Int) + (g : Int) = (to_ : Int) := by omega
  rw [hfr1, hto1]
  have hfrp : 0 < fr := by omega
  have hfr100 : fr ≤ 100 ∧ to_ ≤ 100 := by omega
  obtain ⟨pl, hpl⟩ : ∃ pl : Pl, (⟨0, (fr : Int), (to_ : Int)⟩ : Pl) = pl := ⟨_, rfl⟩
  have HB35 := Lib.hid (HB4.out.trans (HB5.out.mono HB4.out.size))
  have htw5 := HTWO.out.below HB35.out
  have HTW5 := Lib.hid htw5
  have hplw : Calls Try.prog 32 #[.pointer (some ⟨ka, 0, none⟩), .agg #[.int .i64 0, .int .i64 (fr : Int), .int .i64 (to_ : Int)]] w5 fun e w' => e = .returned (.tuple #[]) ∧ Left oa0 w5 ka ((Dk.new 67108864).setPlan pl) w' := by
    have h9 := plan_walk oa0 w5 ka ba0 (Dk.new 67108864) htw5.ra pl
    rw [← hpl] at h9 ⊢
    exact h9
  have HPL := Lib.hid hplw
  have HPLN := Lib.hid hpl
  clear htw5 hplw hpl hfr1 hto1 hf20 hg5 hfr hto n4
  go_upto_region 7 with (first | (go_at_call 32; refine HPL.out.mono ?_; rintro e w6 ⟨rfl, hleft⟩; obtain ⟨oa1, ba1, htw6, hfr6⟩ := HTW5.out.left hleft; have HTW6 := Lib.hid htw6; have HFR6 := Lib.hid ((Fr.of_below (own := both oa0 ob0) HB35.out).trans hfr6); clear hleft htw6 hfr6))
  have hbox := (HFR6.out.block H0 (Nat.lt_of_lt_of_le hszb HB03.out.size) (HOWN0.out H0 hszb)).trans HBOX3.out
  have n0 := blk_cell hbox 0
  simp at n0
  have hb06 : Below w0.heap.size w0 w6 := HBB.out.trans (HB03.out.mono HBB.out.size |>.trans (HFR6.out.below (Nat.le_trans HBB.out.size HB03.out.size) (fun k hk => HOWN0.out k (Nat.lt_of_lt_of_le hk HBB.out.size))))
  have HB06 := Lib.hid hb06
  have HFW := Lib.hid (HF1.out w6 hb06)
  have HBOX6 := Lib.hid hbox
  clear hbox hb06
  have kc := fun (w : World) (C : Array Value) (n c : Nat) => Lib.run_convert_bytes_const (P := Try.prog) w 26 5 C n c Try.underlying26 Try.underlying5
  obtain ⟨l1f, hl1f⟩ : ∃ l, fewOps l1 = l := ⟨_, rfl⟩
  have hlen1 := fewOps_len l1
  rw [hl1f] at HFW HO1 hlen1
  clear hl1f
  go_wp2_with (first | (go_at_call 24; refine HFW.out.mono ?_; rintro e w7 ⟨v7, rfl, hr7, hb7⟩; obtain ⟨A7, c7, rfl⟩ := Kd.R_slice hr7; have HR7 := Lib.hid (end_R (HB06.out.trans (hb7.mono HB06.out.size)) hr7); have HMK := Lib.hid (end_M w0 w7 w6.heap.size (fun _ => False)); have HO7 := Lib.hid (fun k hk => (R_own_lt hr7 k hk).2); have HB7 := Lib.hid hb7; clear hr7 hb7) | (at_builtin; refine Kd.R_append (kQ (wEnd w7) (PEnd w0 w7)) (W := wEnd w7) (w0 := w6) w6.heap.size rfl (.tmp 38) (.tmp 42) 48 58 _ 128 rfl Try.underlying48 (info58Q _ _) rfl (show 0 < 10 by decide) (by decide) (.slice A7 l1f.length c7) l1f endOp (endCells w7) (fun k => w6.heap.size ≤ k) (fun _ => False) rfl (by simp [Act.eval]) HMK.out (fun _ hk => hk.elim) (fun k hk => Nat.le_trans (below_alloc HB7.out _).size hk) HR7.out (below_alloc HB7.out _) (below_alloc HB7.out _).size (by omega) ?_; intro v8 w8 hr8 hb8 hg8 hat8; obtain ⟨A8, c8, rfl⟩ := Kd.R_slice hr8; have HR8 := Lib.hid hr8; have HB8 := Lib.hid hb8; have HG8 := Lib.hid hg8; clear hr8 hb8 hg8 hat8))
  obtain ⟨ops, hops⟩ : ∃ ops, l1f ++ [endOp] = ops := ⟨_, rfl⟩
  have hlen : ops.length ≤ 201 := by rw [← hops, List.length_append, List.length_singleton]; omega
  have HOP := Lib.hid (fun (o : S58) (h : o ∈ ops) => (show OpOk o ∧ (1 ≤ o.f0 ∧ o.f0 ≤ 6) ∧ o.f5.length ≤ 4096 from by
    rw [← hops] at h
    rcases List.mem_append.1 h with h | h
    · exact HO1.out o h
    · rw [List.mem_singleton.1 h]; exact ⟨endOp_ok, by decide, by decide⟩))
  have hlen2 : (l1f ++ [endOp]).length = ops.length := by rw [hops]
  rw [hlen2, hops] at HR8
  simp only [List.length_append, List.length_singleton] at hlen2
  rw [hlen2]
  clear hops hlen2
  have hmv : ∀ k, PEnd w0 w7 k → w8.heap[k]? = (wEnd w7).heap[k]? := fun k hk => by
    have hs : (wEnd w7).heap.size = w7.heap.size + 1 := by simp [wEnd]
    have h67 := HB7.out.size
    have h06 := HB06.out.size
    refine HG8.out.block k (by rw [hs]; rcases hk with hk | hk <;> omega) (fun e => ?_)
    have h9 := HO7.out k e.symm
    rcases hk with hk | hk <;> omega
  have HRO := Lib.hid (R_kQ_move hmv HR8.out)
  obtain ⟨P, hP⟩ : ∃ P, PEnd w0 w7 = P := ⟨_, rfl⟩
  rw [hP] at HRO
  have HFR8 := Lib.hid (HFR6.out.trans (Fr.of_below HB8.out))
  have hPn : ∀ k, P k → k < w8.heap.size ∧ both oa1 ob0 k = none := fun k hk => by
    rw [← hP] at hk
    have h67 := HB7.out.size
    have h06 := HB06.out.size
    have h8 := HG8.out.size
    have hs : (wEnd w7).heap.size = w7.heap.size + 1 := by simp [wEnd]
    rcases hk with hk | hk
    · exact ⟨by omega, HFR6.out.new k (Nat.lt_of_lt_of_le hk (Nat.le_trans HBB.out.size HB03.out.size)) (HOWN0.out k (Nat.lt_of_lt_of_le hk HBB.out.size))⟩
    · exact ⟨by omega, HTW6.out.above k (by omega)⟩
  have HPN := Lib.hid hPn
  have HTW8 := Lib.hid (HTW6.out.below HB8.out)
  clear hmv hP hPn HR8 HG8 HR7 HMK n0
  have hst : Full ⟨0, (fr : Int), (to_ : Int)⟩ ((Dk.new 67108864).setPlan pl) (Dk.new 67108864) 0 0 := by rw [HPLN.out]; exact Full.start pl (by rw [← HPLN.out]; exact Int.le_refl _)
  have HST := Lib.hid hst
  clear hst
  have HKEEP := Lib.hid (fun (own' : Own) (W : World) (hf : Fr (both oa1 ob0) own' w8 W) => R_keep HRO.out HTW6.out.above hf)
  have HAT := Lib.hid (fun (own' : Own) (W : World) (hf : Fr (both oa1 ob0) own' w8 W) => (⟨HB06.out.trans ((HB8.out.mono HB06.out.size).trans (hf.below (Nat.le_trans HB06.out.size HB8.out.size) (fun k hk => HFR6.out.new k (Nat.lt_of_lt_of_le hk (Nat.le_trans HBB.out.size HB03.out.size)) (HOWN0.out k (Nat.lt_of_lt_of_le hk HBB.out.size))))), hf.block H0 (Nat.lt_of_lt_of_le hszb (Nat.le_trans HB03.out.size HFR8.out.size)) (HFR6.out.new H0 (Nat.lt_of_lt_of_le hszb HB03.out.size) (HOWN0.out H0 hszb)) |>.trans (blk_below HBOX6.out HB8.out)⟩ : Below w0.heap.size w0 W ∧ W.heap[H0]? = some (.cells #[.slice A1 l1.length c1, .int .i64 off, .slice A2 l2.length c2, .slice A3 l3.length c3, .slice A4 l4.length c4] 65 (0, 0))))
  go_wp2_with fail
  go_loopw [7, 9] (fun v7 v9 wr => ∃ (i n : Nat) (a b : Dk) (oa ob : Own) (ba bb : Nat → Nat), i ≤ ops.length ∧ v9 = .int .i64 i ∧ v7 = .int .i64 n ∧ n ≤ i ∧ Full ⟨0, (fr : Int), (to_ : Int)⟩ a b i n ∧ Two wr ka kb a b oa ob ba bb ∧ Fr (both oa1 ob0) (both oa ob) w8 wr) (fun _ v9 _ => ops.length - (RowKit.intOf v9).toNat)
  case atStart => exact ⟨0, 0, _, _, oa1, ob0, ba1, bb0, Nat.zero_le _, rfl, rfl, Nat.le_refl _, HST.out, HTW8.out, Fr.refl _ _⟩
  case round =>
    obtain ⟨i, n, a, b, oa, ob, ba, bb, hi, rfl, rfl, hni, hfl, htw, hfr⟩ := hrel
    have HFL := Lib.hid hfl
    have HTW := Lib.hid htw
    have HFR := Lib.hid hfr
    clear hfl htw hfr
    by_cases hlt : i < ops.length
    · have qi0 : (0 : Int) ≤ (i : Int) := by omega
      have qi1 : (i : Int) < (ops.length : Int) := by omega
      obtain ⟨ad, A5, c5, A9, c9, hA8, g0, g1, g2, g3, g4, g5, g6, g7, g8, g9, l5, C5, l9, hP5⟩ := opQ_at (Kd.R_reads' (HKEEP.out _ wr HFR.out)).2.2 i hlt
      obtain ⟨hook, hk16, hlen5⟩ := HOP.out ops[i] (List.getElem_mem hlt)
      obtain ⟨o, ho⟩ : ∃ o, ops[i] = o := ⟨_, rfl⟩
      rw [ho] at g0 g1 g2 g3 g4 g5 g6 g7 g8 g9 l5 C5 l9 hP5 hook hk16 hlen5
      subst hA8
      have hout : Out (both oa ob) wr A5 o.f5 := ⟨bytes_move C5 (fun ad ha hn => by
        obtain ⟨h1, h2⟩ := HPN.out _ (hP5 ad ha hn)
        exact HFR.out.block _ h1 h2), fun ad ha hn => by
        obtain ⟨h1, h2⟩ := HPN.out _ (hP5 ad ha hn)
        exact HFR.out.new _ h1 h2⟩
      have HOUT := Lib.hid hout
      have HOOK := Lib.hid hook
      have HK16 := Lib.hid hk16
      have hi250 : i ≤ 250 := by omega
      have hiA : i * 4100 ≤ 1000000000 := by omega
      have hiB : (i + 1) * 4100 ≤ 1000000000 := by omega
      clear ho C5 hP5 hook hk16 l9 l5 hout
      go_upto_region 13 with (fail)
      obtain ⟨wx, hwx⟩ : ∃ wx, wr.alloc (.cells #[.int .i64 o.f0, .int .i64 o.f1, .int .i64 o.f2, .string o.f3, .string o.f4, .slice A5 o.f5.length c5, .int .i64 o.f6.f0, .int .i64 o.f6.f1, .int .i64 o.f6.f2, .slice A9 o.f7.length c9] 58) = wx := ⟨_, rfl⟩
      obtain ⟨kx, hkx⟩ : ∃ kx, wr.heap.size = kx := ⟨_, rfl⟩
      have hbx : Below wr.heap.size wr wx := hwx ▸ below_alloc (Below.refl _ _) _
      have hnx : wx.heap[kx]? = some (.cells #[.int .i64 o.f0, .int .i64 o.f1, .int .i64 o.f2, .string o.f3, .string o.f4, .slice A5 o.f5.length c5, .int .i64 o.f6.f0, .int .i64 o.f6.f1, .int .i64 o.f6.f2, .slice A9 o.f7.length c9] 58 (0, 0)) := by rw [← hwx, ← hkx]; exact blk_new wr _
      rw [hwx, hkx]
      have HBX := Lib.hid hbx
      have HNX := Lib.hid hnx
      have HKX := Lib.hid hkx
      have HFRX := Lib.hid (HFR.out.trans (Fr.of_below hbx))
      have n2 := blk_cell (HAT.out _ wx HFRX.out).2 2
      simp at n2
      have HTWX := Lib.hid (HTW.out.below hbx)
      have HCRX := Lib.hid (HCR.out oa wx ka ba a HTWX.out.ra (i * 4100) HFL.out.ona hiA (HAT.out _ wx HFRX.out).1)
      unfold ptr at HCRX
      clear g0 g1 g2 g3 g4 g5 g6 g7 g8 g9 hwx hkx hbx hnx
      go_upto_region 14 with (first | (go_at_call 21; refine HCRX.out.mono ?_; rintro e w10 ⟨v10, rfl, hr10, hb10⟩; obtain ⟨A10, c10, rfl⟩ := Kd.R_slice hr10; rw [List.length_map] at hr10; have HR10 := Lib.hid hr10; have HB10 := Lib.hid hb10; clear hr10 hb10))
      have hnx := blk_below HNX.out HB10.out
      have n0 := blk_cell hnx 0
      have n1 := blk_cell hnx 1
      have n2 := blk_cell hnx 2
      have n3 := blk_cell hnx 3
      have n4 := blk_cell hnx 4
      have n5 := blk_cell hnx 5
      have n6 := blk_cell hnx 6
      have n7 := blk_cell hnx 7
      have n8 := blk_cell hnx 8
      have n9 := blk_cell hnx 9
      simp at n0 n1 n2 n3 n4 n5 n6 n7 n8 n9
      have HNX10 := Lib.hid hnx
      have htw10 := HTWX.out.below HB10.out
      have HTW10 := Lib.hid htw10
      have hout10 := HOUT.out.keep (Fr.of_below (own := both oa ob) (HBX.out.trans (HB10.out.mono HBX.out.size)))
      have HOUT10 := Lib.hid hout10
      have HPLA := Lib.hid (play_op oa w10 ka ba a htw10.ra HFL.out.ona.inv.ok _ HFL.out.ona.bd hiA o HOOK.out A5 c5 A9 c9 hout10.both.1 HK16.out)
      unfold opV ptr at HPLA
      have hstep := HFL.out.step hfrp (opOf o) HK16.out (by show (toBy o.f5).length ≤ 4096; rw [toBy_len]; exact hlen5) hi250
      obtain ⟨R, hR⟩ : ∃ R, a.play (opOf o) = R := ⟨_, rfl⟩
      rw [hR] at HPLA hstep
      obtain ⟨a', e1⟩ := R
      have HSTEP := Lib.hid hstep
      clear hnx htw10 hout10 hR hstep
      go_upto_region 15 with (first | (go_at_call 26; refine HPLA.out.mono ?_; rintro e w11 ⟨rfl, hleft⟩; obtain ⟨oa2, ba2, htw11, hfr11⟩ := HTW10.out.left hleft; have HTW11 := Lib.hid htw11; have HFR11 := Lib.hid hfr11; clear hleft htw11 hfr11))
      have HCN := Lib.hid (counted_walk e1 w11)
      have hown := HTWX.out.above
      have hnx := (HFR11.out.block kx (blk_lt HNX10.out) (by rw [← HKX.out]; exact HTW.out.above _ (Nat.le_refl _))).trans HNX10.out
      have n0 := blk_cell hnx 0
      simp at n0
      have HNX11 := Lib.hid hnx
      have hR10 : Kd.R k28 28 w11 wx.heap.size (fun k => wx.heap.size ≤ k) (.slice A10 (a.crash l2).length c10) ((a.crash l2).map encF) := R_keep HR10.out hown HFR11.out
      have HR11 := Lib.hid hR10
      have HFRA := Lib.hid (HFRX.out.trans ((Fr.of_below (own := both oa ob) HB10.out).trans HFR11.out))
      clear hown hnx hR10 n1 n2 n3 n4 n5 n6 n7 n8 n9
      have HBZ := Lib.hid (Below.refl w11.heap.size w11)
      obtain ⟨CR, hCR⟩ : ∃ CR, a.crash l2 = CR := ⟨_, rfl⟩
      have hcl := HFL.out.ona.crash_len l2
      have hc64 := crash_64 HFL.out.ona l2
      rw [hCR] at hcl hc64 HR11 ⊢
      have HCL := Lib.hid hcl
      have HCRE := Lib.hid hCR
      clear hcl hCR
      have hiC : 2 * (i * 4100) ≤ 1000000000 := by omega
      have hc9 : CR.length ≤ 1000000000 := by omega
      have HIMS := Lib.hid (fun W A c (hA : Kd.C k28 W A CR.length (CR.map encF) ∧ CR.length ≤ c) (hb : Below w11.heap.size w11 W) => image_same CR A A10 c c10 W hA (img_keep (R_img HR11.out) hb) hc9 (fun x hx => Nat.le_trans (HCL.out x hx) hiC))
      clear hc64 hc9 hiC hiA
      rcases HSTEP.out with ⟨hk1, he, hft, hcr, hfull⟩ | ⟨hno, hnf, heq, hfull⟩
      · have he' : e1 = 114 := he
        subst he'
        have HFULL := Lib.hid hfull
        have hk1' : o.f0 = 1 := hk1
        rw [hk1'] at n0
        have hcn : countedB 114 = true := rfl
        have hcast : ((114 : Nat) : Int) = 114 := rfl
        rw [hcn, hcast] at HCN
        have qa : (fr : Int) ≤ ((n + 1 : Nat) : Int) := Int.ofNat_le.2 hft.1
        have qb : ((n + 1 : Nat) : Int) ≤ (to_ : Int) := Int.ofNat_le.2 hft.2
        have hn250 : n ≤ 250 := Nat.le_trans hni hi250
        have HCRB := Lib.hid (fun W (hb : Below w11.heap.size w11 W) => by
          have h9 := HCR.out oa2 W ka ba2 a' (HTW11.out.below hb).ra ((i + 1) * 4100) HFULL.out.ona hiB (HAT.out _ W (HFRA.out.trans (Fr.of_below hb))).1
          rw [show a'.crash l2 = a.crash l2 from hcr l2, HCRE.out] at h9
          exact h9)
        unfold ptr at HCRB
        have HNI := Lib.hid (Nat.succ_le_succ hni)
        clear he hft hcr hfull hk1 hiB hi250 hni
        rw [hcast]
        go_upto_region 17 with (first | (go_at_call 33; refine HCN.out.mono ?_; rintro e w12 ⟨rfl, m12, hw12⟩; have HBZ := Lib.hid (hw12 ▸ below_drewN' _ m12); clear hw12))
        have hnx12 := blk_below HNX11.out HBZ.out
        have n0 := blk_cell hnx12 0
        simp at n0
        rw [hk1'] at n0
        have n2 := blk_cell (HAT.out _ w12 (HFRA.out.trans (Fr.of_below HBZ.out))).2 2
        simp at n2
        clear hnx12
        go_upto_region 18 with (fail)
        go_wp2_with (first | (go_at_call 21; refine (HCRB.out _ HBZ.out).mono ?_; rintro e wx ⟨vx, rfl, hrx, hbx⟩; obtain ⟨Ax, cx, rfl⟩ := Kd.R_slice hrx; rw [List.length_map] at hrx; have HRX := Lib.hid (R_img hrx); have HBZ := Lib.hid (HBZ.out.trans (hbx.mono HBZ.out.size)); clear hrx hbx))
        go_wp2_with (first | (go_at_call 20; refine (HIMS.out _ _ _ HRX.out HBZ.out).mono ?_; rintro e wy ⟨rfl, hby⟩; have HBZ := Lib.hid (HBZ.out.trans (hby.mono HBZ.out.size)); clear hby))
        go_roundw
        case rel => exact ⟨i + 1, n + 1, a', b, oa2, ob, ba2, bb, by omega, by go_num, by go_num, HNI.out, HFULL.out, HTW11.out.below HBZ.out, HFRA.out.trans (Fr.of_below HBZ.out)⟩
        case measure => simp [RowKit.intOf]; omega
      · have HFULL := Lib.hid hfull
        obtain ⟨R2, hR2⟩ : ∃ R2, b.play (opOf o) = R2 := ⟨_, rfl⟩
        have HPLB := Lib.hid (fun W (hb : Below w11.heap.size w11 W) => play_op ob W kb bb b (HTW11.out.below hb).rb HFL.out.onb.inv.ok _ HFL.out.onb.bd (Nat.le_trans (Nat.mul_le_mul_right 4100 (Nat.le_succ i)) hiB) o HOOK.out A5 c5 A9 c9 (HOUT10.out.keep (HFR11.out.trans (Fr.of_below hb))).both.2 HK16.out)
        unfold opV ptr at HPLB
        rw [hR2] at HPLB heq HFULL
        obtain ⟨b', e2⟩ := R2
        have he2 : e2 = e1 := heq
        subst he2
        have hno2 : ¬ (o.f0 = 1 ∧ e2 = 114) := hno
        have hnf2 : o.f0 = 1 → e2 = 0 → ¬ (fr ≤ n + 1 ∧ n + 1 ≤ to_) := hnf
        have hn250 : n ≤ 250 := Nat.le_trans hni hi250
        obtain ⟨m, hm⟩ : ∃ m, n + (if countedB e2 then 1 else 0) = m := ⟨_, rfl⟩
        have hm' : m = n + (if countedB e2 then 1 else 0) := hm.symm
        have HFULM := Lib.hid (show Full ⟨0, (fr : Int), (to_ : Int)⟩ a' b' (i + 1) m by rw [← hm]; exact HFULL.out)
        have HMI := Lib.hid (show m ≤ i + 1 by rw [← hm]; split <;> omega)
        clear hno hnf heq hfull hR2 HFULL hiB hi250 hni hm
        go_upto_if 62 with (first | (go_at_call 33; refine HCN.out.mono ?_; rintro e w12 ⟨rfl, m12, hw12⟩; have HBZ := Lib.hid (hw12 ▸ below_drewN' _ m12); clear hw12))
        go_cut [7] from 62 to 64 (fun v7 wx => v7 = .int .i64 m ∧ wx = w12)
        case first =>
          by_cases hc : countedB e2 = true
          · rw [hc] at hm' ⊢
            rw [if_pos rfl] at hm'
            go_wp2_with fail
            go_meet
            case rel => exact ⟨by rw [hm']; go_num, rfl⟩
          · have hc' : countedB e2 = false := by simpa using hc
            rw [hc'] at hm' ⊢
            rw [if_neg (by simp)] at hm'
            go_wp2_with fail
            go_meet
            case rel => exact ⟨by rw [hm']; go_num, rfl⟩
        case rest =>
          obtain ⟨rfl, rfl⟩ := hcut
          have hnx12 := blk_below HNX11.out HBZ.out
          have n0 := blk_cell hnx12 0
          have n1 := blk_cell hnx12 1
          have n2 := blk_cell hnx12 2
          have n3 := blk_cell hnx12 3
          have n4 := blk_cell hnx12 4
          have n5 := blk_cell hnx12 5
          have n6 := blk_cell hnx12 6
          have n7 := blk_cell hnx12 7
          have n8 := blk_cell hnx12 8
          have n9 := blk_cell hnx12 9
          simp at n0 n1 n2 n3 n4 n5 n6 n7 n8 n9
          clear hnx12
          have hmv : countedB e2 = true → m = n + 1 := fun h => by rw [hm', h]; rfl
          clear hm'
          have hplb := (HPLB.out wc HBZ.out).mono (R' := fun e w' => e = .returned (.int .i64 (e2 : Int)) ∧ Left ob wc kb b' w') (fun _ _ h => h)
          have he3 : (e2 : Int) = 114 → e2 = 114 := fun h => by omega
          have he4 : (e2 : Int) = 0 → e2 = 0 := fun h => by omega
          obtain ⟨E, hE⟩ : ∃ E : Int, (e2 : Int) = E := ⟨_, rfl⟩
          rw [hE] at hplb he3 he4 ⊢
          have HPLB := Lib.hid hplb
          have HNO := Lib.hid hno2
          have HNF := Lib.hid hnf2
          have HE3 := Lib.hid he3
          have HE4 := Lib.hid he4
          have HM := Lib.hid hmv
          clear hE hplb hno2 hnf2 he3 he4 hmv
          obtain ⟨wd, hwd⟩ : ∃ wd, wc = wd := ⟨_, rfl⟩
          rw [hwd] at HPLB HBZ n0 n1 n2 n3 n4 n5 n6 n7 n8 n9 ⊢
          clear hwd
          go_upto_region 17 with (fail)
          go_cut [71] from 65 to 71 (fun v71 wx => v71 = .bool false ∧ wx = wd)
          case first =>
            clear n1 n2 n3 n4 n5 n6 n7 n8 n9
            by_cases p1 : o.f0 = 1
            · have p2 : ¬ E = 114 := fun h => HNO.out ⟨p1, HE3.out h⟩
              go_wp2_with fail
              go_meet
              case rel => exact ⟨by simp [p1, p2], rfl⟩
            · go_wp2_with fail
              go_meet
              case rel => exact ⟨by simp [p1], rfl⟩
          case rest =>
            obtain ⟨rfl, hwe⟩ := hcut
            subst hwe
            go_upto_region 20 with (fail)
            go_cut [105] from 89 to 105 (fun v105 wx => v105 = .bool false ∧ wx = wc)
            case first =>
              clear n1 n2 n3 n4 n5 n6 n7 n8 n9
              by_cases p1 : o.f0 = 1
              · have q1 : (o.f0 == 1) = true := by simp [p1]
                by_cases p2 : E = 0
                · have p3 : ¬ (fr ≤ n + 1 ∧ n + 1 ≤ to_) := HNF.out p1 (HE4.out p2)
                  have p4 : m = n + 1 := HM.out (by rw [HE4.out p2]; rfl)
                  have q2 : (E == 0) = true := by simp [p2]
                  by_cases p5 : (fr : Int) ≤ (m : Int)
                  · have p6 : ¬ (m : Int) ≤ (to_ : Int) := fun h => p3 ⟨by omega, by omega⟩
                    clear p3 p4 p1 p2
                    go_wp2_with fail
                    go_meet
                    case rel => exact ⟨by simp [p5, p6], rfl⟩
                  · clear p3 p4 p1 p2
                    go_wp2_with fail
                    go_meet
                    case rel => exact ⟨by simp [p5], rfl⟩
                · clear p1
                  go_wp2_with fail
                  go_meet
                  case rel => exact ⟨by simp [p2], rfl⟩
              · go_wp2_with fail
                go_meet
                case rel => exact ⟨by simp [p1], rfl⟩
            case rest =>
              obtain ⟨rfl, hwe⟩ := hcut
              subst hwe
              go_wp2_with (first | (go_at_call 26; refine HPLB.out.mono ?_; rintro e w13 ⟨rfl, hleft⟩; obtain ⟨ob2, bb2, htw13, hfr13⟩ := (HTW11.out.below HBZ.out).right hleft; have HTW13 := Lib.hid htw13; have HFR13 := Lib.hid hfr13; clear hleft htw13 hfr13))
              go_roundw
              case rel => exact ⟨i + 1, m, a', b', oa2, ob2, ba2, bb2, by omega, by go_num, rfl, HMI.out, HFULM.out, HTW13.out, HFRA.out.trans ((Fr.of_below HBZ.out).trans HFR13.out)⟩
              case measure => simp [RowKit.intOf]; omega
    · have hq : ¬ (i : Int) < (ops.length : Int) := by omega
      have hiA : i * 4100 ≤ 1000000000 := by omega
      have hiC : 2 * (i * 4100) ≤ 1000000000 := by omega
      obtain ⟨wl, hwl⟩ : ∃ wl : World, wl = wr := ⟨_, rfl⟩
      subst hwl
      obtain ⟨I, hI⟩ : ∃ I, a.image = I := ⟨_, rfl⟩
      have hib : b.image = I := by rw [HFL.out.img, hI]
      obtain ⟨CR, hCR⟩ : ∃ CR, a.crash l2 = CR := ⟨_, rfl⟩
      have hcb : b.crash l2 = CR := by rw [HFL.out.crash, hCR]
      have hI64 := img_64 HFL.out.ona
      have hC64 := crash_64 HFL.out.ona l2
      have hIl := img_len HFL.out.ona
      have hCl := HFL.out.ona.crash_len l2
      rw [hI] at hI64 hIl
      rw [hCR] at hC64 hCl
      have HB00 := Lib.hid ((HAT.out _ wl HFR.out).1)
      have HSA := Lib.hid (fun p W (hp : p = ka ∨ p = kb) (hb : Below wl.heap.size wl W) => show Calls Try.prog 25 #[.pointer (some ⟨p, 0, none⟩)] W (Rows I W) from by
        rcases hp with rfl | rfl
        · exact seen_on (HTW.out.below hb).ra HFL.out.ona hiA hI
        · exact seen_on (HTW.out.below hb).rb HFL.out.onb hiA hib)
      have HCA := Lib.hid (fun p W (hp : p = ka ∨ p = kb) (hb : Below wl.heap.size wl W) => show Calls Try.prog 21 #[.pointer (some ⟨p, 0, none⟩), .slice A2 l2.length c2] W (Rows CR W) from by
        have hbw := (HAT.out _ W (HFR.out.trans (Fr.of_below hb))).1
        rcases hp with rfl | rfl
        · exact rows_of hCR (HCR.out oa W _ ba a (HTW.out.below hb).ra _ HFL.out.ona hiA hbw)
        · exact rows_of hcb (HCR.out ob W _ bb b (HTW.out.below hb).rb _ HFL.out.onb hiA hbw))
      have HI20 := Lib.hid (fun X W A B c c' (hx : X = I ∨ X = CR) (ra : Kd.C k28 W A X.length (X.map encF) ∧ X.length ≤ c) (rb : Kd.C k28 W B X.length (X.map encF) ∧ X.length ≤ c') => show Calls Try.prog 20 #[.slice A X.length c, .slice B X.length c'] W (fun e w' => e = .returned (.bool true) ∧ Below W.heap.size W w') from by
        rcases hx with rfl | rfl
        · exact image_same _ A B c c' W ra rb (by omega) (fun x hx => Nat.le_trans (hIl x hx) hiA)
        · exact image_same _ A B c c' W ra rb (by omega) (fun x hx => Nat.le_trans (hCl x hx) hiC))
      have HST := Lib.hid (fun W (hb : Below wl.heap.size wl W) => show Calls Try.prog 14 #[.pointer (some ⟨ka, 0, none⟩)] W (fun e w' => e = .returned (.int .i64 (n : Int)) ∧ w' = W) from by
        have h9 := strokes_walk (HTW.out.below hb).ra
        rw [HFL.out.st] at h9
        exact h9)
      have HS := Lib.hid (fun W (hb : Below wl.heap.size wl W) => (⟨by
        have h9 := blk_cell (HAT.out _ W (HFR.out.trans (Fr.of_below hb))).2 2
        simp at h9
        exact h9, hb⟩ : W.cell? ⟨H0, 2, none⟩ = some (.slice A2 l2.length c2) ∧ Below wl.heap.size wl W))
      have HKP := Lib.hid (fun W W' (hs : W.cell? ⟨H0, 2, none⟩ = some (.slice A2 l2.length c2) ∧ Below wl.heap.size wl W) (hb : Below W.heap.size W W') => HS.out W' (hs.2.trans (hb.mono hs.2.size)))
      clear hI hib hCR hcb hI64 hC64 hIl hCl hiA hiC hlt hni hi HTW HFL HCR HAT HKEEP
      go_upto_region 24 with (fail)
      clear hq
      go_region_held3 (fun w' => w'.cell? ⟨H0, 2, none⟩ = some (.slice A2 l2.length c2) ∧ Below wl.heap.size wl w')
        (first | assumption | exact HS.out _ (below_drewN' _ 1) | exact HKP.out _ _ (by assumption) (by assumption))
        (first
          | (go_at_call 25; refine (HSA.out _ _ ?hp ?hbel).mono ?_; (case hp => (first | exact .inl rfl | exact .inr rfl)); (case hbel => exact And.right (by assumption)); rintro e wx ⟨Ax, cx, rfl, hrow, hbx⟩)
          | (go_at_call 21; refine (HCA.out _ _ ?hp ?hbel).mono ?_; (case hp => (first | exact .inl rfl | exact .inr rfl)); (case hbel => exact And.right (by assumption)); rintro e wx ⟨Ax, cx, rfl, hrow, hbx⟩)
          | (go_at_call 20; refine (HI20.out _ _ _ _ _ _ ?hx ?ra ?rb).mono ?_; (case hx => (first | exact .inl rfl | exact .inr rfl)); (case ra => (first | assumption | exact img_keep (by assumption) (by assumption))); (case rb => (first | assumption | exact img_keep (by assumption) (by assumption))); rintro e wx ⟨rfl, hbx⟩)
          | (go_at_call 14; refine (HST.out _ ?hbel).mono ?_; (case hbel => exact And.right (by assumption)); rintro e wx ⟨rfl, rfl⟩))
      all_goals
        rename_i hS
        go_wp2_with fail
        go_ret
        exact ⟨rfl, HB00.out.trans (hS.2.mono HB00.out.size)⟩
end Go.Proofs.Ytonecajkfbdnmaa.Dk
