/- The walk of Append: a file that is there. -/
import Derived.Test.YtonecajkfbdnmaaEd
namespace Go.Proofs.Ytonecajkfbdnmaa.Dk
open Go.Lib Go.RowKit Go.ChangeMaps Go.Proofs.Ytonecajkfbdnmaa.Mp Go.Proofs.YtonecajkfbdnmaaW.PrintWords Go.Proofs.YtonecajkfbdnmaaW.PrintLast Go.Proofs.YtonecajkfbdnmaaW.PrintMore Go.Proofs.Ytonecajkfbdnmaa.PDiskRoom
set_option linter.unusedVariables false
set_option linter.unusedSimpArgs false

theorem setFile_setFile (d : Dk) (f : Nat) (g k : Fl → Fl) : (d.setFile f g).setFile f k = d.setFile f (fun x => k (g x)) := by
  unfold Dk.setFile
  simp only [Dk.mk.injEq, true_and]
  apply List.ext_getElem?
  intro i
  simp only [List.getElem?_modify]
  by_cases e : f = i
  · subst e; simp [Function.comp_def]
  · simp [e]
theorem setFile_congr (d : Dk) (f : Nat) (g k : Fl → Fl) (h : f < d.files.length → g (d.file f) = k (d.file f)) : d.setFile f g = d.setFile f k := by
  unfold Dk.setFile
  simp only [Dk.mk.injEq, true_and, and_true]
  apply List.ext_getElem?
  intro i
  simp only [List.getElem?_modify]
  by_cases e : f = i
  · subst e
    by_cases hl : f < d.files.length
    · rw [List.getElem?_eq_getElem hl, file_eq hl]
      simp [h hl]
    · rw [List.getElem?_eq_none (by omega)]; rfl
  · simp [e]
theorem setFile_id (d : Dk) (f : Nat) : d.setFile f (fun x => x) = d := by
  unfold Dk.setFile
  have : d.files.modify f (fun x => x) = d.files := by
    apply List.ext_getElem?
    intro i
    simp only [List.getElem?_modify]
    by_cases e : f = i <;> simp [e]
  rw [this]
/-- Bytes that lie in no disk. -/
def Out (own : Own) (w : World) (A : Option Addr) (xs : List Int) : Prop := Kd.C kB w A xs.length xs ∧ ∀ ad, A = some ad → 0 < xs.length → own ad.block = none
theorem Out.keep {own own' : Own} {w w' : World} {A : Option Addr} {xs : List Int} (h : Out own w A xs) (hf : Fr own own' w w') : Out own' w' A xs := by
  obtain ⟨hC, ho⟩ := h
  have hr := Kd.reads_of_C (d := (0 : Int)) hC
  refine ⟨Kd.C_of_reads (d := (0 : Int)) ⟨hr.1, hr.2.1, fun hn => ?_⟩, fun ad e hn => ?_⟩
  · obtain ⟨ad, e, hc⟩ := hr.2.2 hn
    refine ⟨ad, e, fun j hj => ?_⟩
    have hcj := hc j hj
    have hb : (ad.add j).block = ad.block := by unfold Addr.add; split <;> rfl
    rw [World.cell?_of_block (hf.block (ad.add j).block (World.block_lt_of_cell? w _ hcj) (by rw [hb]; exact ho ad e hn))]
    exact hcj
  · obtain ⟨ad', e', hc⟩ := hr.2.2 hn
    rw [e] at e'
    obtain rfl := Option.some.inj e'
    have hcj := hc 0 hn
    have hb : (ad.add 0).block = ad.block := by unfold Addr.add; split <;> rfl
    have := World.block_lt_of_cell? w _ hcj
    rw [hb] at this
    exact hf.new _ this (ho ad e hn)
theorem Out.at {own : Own} {w : World} {A : Option Addr} {xs : List Int} (h : Out own w A xs) (i : Nat) (hi : i < xs.length) : ∃ ad, A = some ad ∧ w.cell? (ad.add i) = some (.int .u8 xs[i]) := by
  obtain ⟨ad, e, hc⟩ := C_cells h.1 (by omega)
  exact ⟨ad, e, hc i _ (by rw [List.getElem?_map, List.getElem?_eq_getElem hi]; rfl)⟩
theorem info90 : (Try.prog.info? 90).map (fun i => (i.zero, i.size, i.bytes)) = some (some (.agg #[.bool false, .int .u8 0, .int .i64 0]), kU.sz, 16) := by kernel_rfl
theorem kU_mkM (w : World) (base : Nat) (ok : Nat → Prop) (x : U90) : kU.M w base ok x [.bool x.cut, .int .u8 x.b, .int .i64 x.at_] :=
  ⟨[.bool x.cut], [.int .u8 x.b, .int .i64 x.at_], rfl, rfl, ⟨[.int .u8 x.b], [.int .i64 x.at_], rfl, rfl, rfl⟩⟩
/-! ### a region that draws its order, whose calls make memory: one walk, over all worlds in which nothing that was there has changed -/
def Cls (w : World) : Type := { w' : World // Below w.heap.size w w' }
def Cls.at {w : World} (i : Cls w) : World := i.1
theorem Cls.below {w : World} (i : Cls w) : Below w.heap.size w i.at := i.2
theorem Cls.cell {w : World} (i : Cls w) {p : Addr} {v : Value} (h : w.cell? p = some v) : i.at.cell? p = some v := pw_cell_below i.below h
def Cls.mk' {w w' : World} (h : Below w.heap.size w w') : Cls w := ⟨w', h⟩
instance clsNonempty (w : World) : Nonempty (Cls w) := ⟨Cls.mk' (Below.refl _ _)⟩
theorem wp_region_cls {P : Program} {id : Nat} {Q : Exit → Act → World → Prop} {a : Act} {w : World} {l : List Oper} (hm : P.follows .mixedOrders = true) (hB : Region.lexB .any l.toArray = true)
    (h : wpQuiet P l.toArray (fun w' => ∃ i : Cls w, w' = i.at) (fun a' => ∀ w', (∃ i : Cls w, w' = i.at) → Q .normal a' w') l a) : (Code.region id l.toArray true).wp P Q a w :=
  wp_region_quiet (C := fun w' => ∃ i : Cls w, w' = i.at) hm hB ⟨Cls.mk' (pw_below_drewN (Below.refl _ _) 1), rfl⟩ (by simpa using h)
theorem cls_call {P : Program} {f : FuncId} {args : Array Value} {w : World} {i : Cls w} {v : Value} (h : Calls P f args i.at fun e w' => e = .returned v ∧ Below i.at.heap.size i.at w') :
    Calls P f args i.at fun e w'' => e = .returned v ∧ ∃ j : Cls w, w'' = j.at :=
  h.mono fun _ _ ⟨he, hb⟩ => ⟨he, Cls.mk' (i.below.trans (hb.mono i.below.size)), rfl⟩
def addU (l : By) (x : Fl) : Fl := { x with units := x.units ++ l.map .add }
/-- What the room's test says. -/
def Dk.tight (d : Dk) (n : Nat) : Bool := d.planFull || decide (d.room - d.used < n)
theorem Rep.len_run {own : Own} {w : World} {kd : Nat} {blk : Nat → Nat} {d : Dk} (h : Rep own w kd blk d) (hs : Srt d.names) : ∃ kn ks vc, w.heap[kd]? = some (.cells (cells d kn ks vc) 81 (0, 0)) ∧ ∀ w', w'.heap = w.heap → ∀ ty, (Builtin.len_ #[78] ty #[.map (some kn)]).run Try.prog w' = .ok (goInt d.names.length) w' := by
  obtain ⟨kn, ks, vc, kv, b0, hm, hkv⟩ := h.names
  have hl := hkv.len hs
  refine ⟨kn, ks, vc, b0, fun w' hw' ty => ?_⟩
  obtain ⟨es, clock, hb, hmap, _⟩ := hm
  have hsz : es.size = d.names.length := by
    rw [← hl]
    have := congrArg List.length hmap
    simpa using this
  rw [← hw'] at hb
  simp [Builtin.len_, run_underlying Try.underlying78, MapKept.run_getObj_map (P := Try.prog) hb, goInt, Result.andThen, hsz]
set_option maxRecDepth 100000 in
set_option maxHeartbeats 4000000 in
theorem append_old (own : Own) (w : World) (kd : Nat) (blk : Nat → Nat) (d : Dk) (h : Rep own w kd blk d) (hok : d.Ok) (h1 : d.strokes ≤ 1000000000) (h2 : d.count ≤ 1000000000) (hroom : d.room ≤ 67108864)
    (n : ByteArray) (hn : n.size ≤ big) (A : Option Addr) (c : Nat) (b : By) (hA : Out own w A (ints b)) (hbl : b.length ≤ 1000000000)
    (hun : ∀ f, f < d.files.length → (d.file f).units.length ≤ 1000000000 ∧ (d.file f).seen.length ≤ 1000000000) (f : Nat) (hfind : d.find n = (some f, 0)) (hget : aget d.names n = some f) :
    Calls Try.prog 48 #[ptr kd, .string n, .slice A b.length c] w (Ends own w kd (d.append n b)) := by
  have HF := Lib.hid (find_walk own w kd blk d h n hn)
  rw [hfind] at HF
  have hfl : f < d.files.length := hok.lt (n, f) ((mem_aget hok.sn n f).2 hget)
  have hud := hun f hfl
  have hAP : d.append n b = if d.tick.tight b.length then (d.tick, if d.tick.off then 115 else 114) else (d.tick.setFile f (Dk.give b), d.tick.told) := by
    unfold Dk.append Dk.tight
    rw [hfind]
    simp [Dk.tick, Dk.used, Dk.file]
  obtain ⟨X, hX⟩ : ∃ X, d.tick.tight b.length = X := ⟨_, rfl⟩
  rw [hX] at hAP
  have HX := Lib.hid hX
  have HAP := Lib.hid hAP
  have HH := Lib.hid h
  have HOK := Lib.hid hok
  have HA := Lib.hid hA
  have HUN := Lib.hid hun
  clear h hok hA hun hfind hget hAP hX
  have hil : (ints b).length = b.length := ints_length b
  have HIL := Lib.hid hil
  clear hil
  unfold ptr at HF ⊢
  go_enter Try.func48, Try.ntmps48
  go_wp2_with fail
  refine HF.out.mono ?_
  rintro e w1 ⟨rfl, m, hw1⟩
  have hb1 : Below w.heap.size w w1 := hw1 ▸ below_drewN' w m
  have HS := Lib.hid (stroke_walk own w1 kd blk d (HH.out.below hb1) (by omega) (by omega))
  have HB1 := Lib.hid hb1
  obtain ⟨toff, htoff⟩ : ∃ t, d.tick.off = t := ⟨_, rfl⟩
  rw [htoff] at HS
  have HTOFF := Lib.hid htoff
  clear hw1 hb1 htoff
  unfold fptr ptr
  unfold ptr at HS
  go_wp2_with fail
  refine HS.out.mono ?_
  rintro e w2 ⟨rfl, hr2, hf2⟩
  have HR2 := Lib.hid hr2
  have HF2 := Lib.hid hf2
  clear hr2 hf2
  go_wp2_with fail
  obtain ⟨kn, ks, vc, hb2, _⟩ := HR2.out.disk
  have hso := HOK.out.sn
  have hus : d.used ≤ d.room := HOK.out.room
  have HU := Lib.hid (fun W (hW : Rep own W kd blk d.tick) => used_walk own W kd blk d.tick hW hso HOK.out.lt (by show d.used ≤ big; unfold big; omega))
  have c0 := blk_cell hb2 0
  have c6 := blk_cell hb2 6
  have c8 := blk_cell hb2 8
  have c9 := blk_cell hb2 9
  simp [cells] at c0
  have HSO := Lib.hid hso
  have HB2 := Lib.hid hb2
  clear hb2 hso c6 c8 c9
  go_cut [86] from 45 to 86 (fun v86 wx => v86 = .bool X ∧ Below w2.heap.size w2 wx)
  case first =>
    clear HAP
    have hXe : X = ((decide (d.plan.from_ ≤ (d.count : Int) + 1) && (decide ((d.count : Int) + 1 ≤ d.plan.to_) && decide (0 < d.plan.from_))) || decide ((b.length : Int) > (d.room : Int) - (d.used : Int))) := by
      rw [← HX.out]
      unfold Dk.tight Dk.planFull
      have e1 : d.tick.used = d.used := rfl
      have e2 : d.tick.room = d.room := rfl
      have e3 : (d.tick.count : Int) = (d.count : Int) + 1 := by simp [Dk.tick]
      have e4 : d.tick.plan = d.plan := rfl
      rw [e1, e2, e3, e4]
      congr 1
      rw [decide_eq_decide]
      omega
    have HXE := Lib.hid hXe
    clear hXe
    have hcC : ((d.tick.count : Nat) : Int) = (d.count : Int) + 1 := by simp [Dk.tick]
    obtain ⟨C, hC⟩ : ∃ C : Int, (d.count : Int) + 1 = C := ⟨_, rfl⟩
    obtain ⟨F, hF⟩ : ∃ F : Int, d.plan.from_ = F := ⟨_, rfl⟩
    obtain ⟨T, hT⟩ : ∃ T : Int, d.plan.to_ = T := ⟨_, rfl⟩
    obtain ⟨U, hU⟩ : ∃ U : Int, (d.used : Int) = U := ⟨_, rfl⟩
    obtain ⟨R, hR⟩ : ∃ R : Int, (d.room : Int) = R := ⟨_, rfl⟩
    have hRU : 0 ≤ U ∧ U ≤ R ∧ R ≤ 67108864 := by omega
    obtain ⟨hU0, hUR, hR0⟩ := hRU
    rw [hC, hF, hT, hU, hR] at HXE
    have e4 : d.tick.plan = d.plan := rfl
    have q6 : w2.cell? ⟨kd, 6, none⟩ = some (.int .i64 C) := by rw [← hC, ← hcC]; exact blk_cell HB2.out 6
    have q8 : w2.cell? ⟨kd, 8, none⟩ = some (.int .i64 F) := by rw [← hF, ← e4]; exact blk_cell HB2.out 8
    have q9 : w2.cell? ⟨kd, 9, none⟩ = some (.int .i64 T) := by rw [← hT, ← e4]; exact blk_cell HB2.out 9
    have HUD := Lib.hid (fun i : Cls w2 => HU.out i.at (HR2.out.below i.below))
    unfold ptr at HUD
    have e5 : d.tick.used = d.used := rfl
    rw [e5, hU] at HUD
    have hwr : IntKind.i64.wrap (R - U) = R - U := IntWalk.i64_in _ (by omega)
    replace c0 : w2.cell? ⟨kd, 0, none⟩ = some (.int .i64 R) := by rw [← hR]; exact blk_cell HB2.out 0
    clear hcC hC hF hT hU hR e4 e5
    have r0 : ∀ i : Cls w2, i.at.cell? ⟨kd, 0, none⟩ = some (.int .i64 R) := fun i => i.cell c0
    have r6 : ∀ i : Cls w2, i.at.cell? ⟨kd, 6, none⟩ = some (.int .i64 C) := fun i => i.cell q6
    have r8 : ∀ i : Cls w2, i.at.cell? ⟨kd, 8, none⟩ = some (.int .i64 F) := fun i => i.cell q8
    have r9 : ∀ i : Cls w2, i.at.cell? ⟨kd, 9, none⟩ = some (.int .i64 T) := fun i => i.cell q9
    clear c0 q6 q8 q9
    by_cases p1 : F ≤ C
    · have hd1 : decide (F ≤ C) = true := by simpa using p1
      by_cases p2 : C ≤ T
      · have hd2 : decide (C ≤ T) = true := by simpa using p2
        by_cases p3 : 0 < F
        · have hd3 : decide (0 < F) = true := by simpa using p3
          refine wp_region_cls (by kernel_rfl) (by kernel_rfl) ?_
          repeat (go_big_quiet_step ((refine cls_call (HUD.out _))))
          refine wpQuiet_nil ?_
          rintro wy ⟨i, rfl⟩
          go_wp2_with fail
          go_meet
          case rel => exact ⟨by rw [HXE.out]; simp [hd1, hd2, hd3], i.below⟩
        · have hd3 : decide (0 < F) = false := by simpa using p3
          refine wp_region_cls (by kernel_rfl) (by kernel_rfl) ?_
          repeat (go_big_quiet_step ((refine cls_call (HUD.out _))))
          refine wpQuiet_nil ?_
          rintro wy ⟨i, rfl⟩
          go_wp2_with fail
          go_meet
          case rel => exact ⟨by rw [HXE.out]; simp [hd1, hd2, hd3], i.below⟩
      · have hd2 : decide (C ≤ T) = false := by simpa using p2
        refine wp_region_cls (by kernel_rfl) (by kernel_rfl) ?_
        repeat (go_big_quiet_step ((refine cls_call (HUD.out _))))
        refine wpQuiet_nil ?_
        rintro wy ⟨i, rfl⟩
        go_wp2_with fail
        go_meet
        case rel => exact ⟨by rw [HXE.out]; simp [hd1, hd2], i.below⟩
    · have hd1 : decide (F ≤ C) = false := by simpa using p1
      refine wp_region_cls (by kernel_rfl) (by kernel_rfl) ?_
      repeat (go_big_quiet_step ((refine cls_call (HUD.out _))))
      refine wpQuiet_nil ?_
      rintro wy ⟨i, rfl⟩
      go_wp2_with fail
      go_meet
      case rel => exact ⟨by rw [HXE.out]; simp [hd1], i.below⟩
  case rest =>
    obtain ⟨rfl, hb3⟩ := hcut
    have hr3 := HR2.out.below hb3
    have HR3 := Lib.hid hr3
    have HF3 := Lib.hid (HF2.out.trans (Fr.of_below hb3))
    clear hr3 hb3
    cases X
    · have HA3 := Lib.hid (HA.out.keep ((Fr.of_below HB1.out).trans HF3.out))
      have HW := Lib.hid ((Fr.of_below HB1.out).trans HF3.out)
      have hfl2 : f < d.tick.files.length := hfl
      have hto : ∀ w, Calls Try.prog 58 #[.bool toff] w fun e w' => e = .returned (.int .i64 (d.tick.told : Int)) ∧ w' = w := fun w => by
        have h9 := told_is d.tick w
        rw [HTOFF.out] at h9
        exact h9
      have HTO := Lib.hid hto
      clear hto
      clear HX
      go_wp2_with fail
      go_loopw [99] (fun v99 wr => ∃ (i : Nat) (own1 : Own), i ≤ b.length ∧ v99 = .int .i64 i ∧ Rep own1 wr kd blk (d.tick.setFile f (addU (b.take i))) ∧ Fr own own1 w wr) (fun v99 _ => b.length - (RowKit.intOf v99).toNat)
      case atStart =>
        refine ⟨0, own, Nat.zero_le _, rfl, ?_, HW.out⟩
        have e : d.tick.setFile f (addU (b.take 0)) = d.tick := by
          rw [setFile_congr d.tick f (addU (b.take 0)) (fun x => x) (fun _ => by simp [addU]), setFile_id]
        rw [e]; exact HR3.out
      case round =>
        obtain ⟨i, own1, hi, rfl, hr, hf⟩ := hrel
        have HRI := Lib.hid hr
        have HFI := Lib.hid hf
        have HAI := Lib.hid (HA.out.keep hf)
        have hfl3 : f < (d.tick.setFile f (addU (b.take i))).files.length := by rw [setFile_len]; exact hfl
        obtain ⟨vk, vu, vs, b0, g1, g2, g3⟩ := hr.rows hfl3
        rw [setFile_file _ _ _ hfl2] at g1 g2 g3
        have cu := blk_cell b0 1
        have cs := blk_cell b0 2
        have fu := blk_frozen b0 1
        have fs := blk_frozen b0 2
        simp at cu cs
        have HB0 := Lib.hid b0
        have HG2 := Lib.hid g2
        have HG3 := Lib.hid g3
        have hne2 : some (blk f) ≠ vu.ownBlock := fun e => by have h1 : own1 (blk f) = some (.units f) := g2.1 _ e.symm; rw [hr.fl f hfl3] at h1; cases h1
        have hne3 : some (blk f) ≠ vs.ownBlock := fun e => by have h1 : own1 (blk f) = some (.seen f) := g3.1 _ e.symm; rw [hr.fl f hfl3] at h1; cases h1
        have hlu : (((addU (b.take i) (d.tick.file f)).units).map encU).length ≤ 3000000000 := by
          rw [List.length_map]
          have e1 : (d.tick.file f).units.length ≤ 1000000000 := hud.1
          simp [addU]; omega
        have hls : (ints ((addU (b.take i) (d.tick.file f)).seen)).length ≤ 1000000000 := by
          rw [ints_length]; exact hud.2
        obtain ⟨us, hus2⟩ : ∃ us, ((addU (b.take i) (d.tick.file f)).units).map encU = us := ⟨_, rfl⟩
        obtain ⟨ss, hss2⟩ : ∃ ss, ints ((addU (b.take i) (d.tick.file f)).seen) = ss := ⟨_, rfl⟩
        rw [hus2] at HG2 hlu
        rw [hss2] at HG3 hls
        have HUS := Lib.hid hus2
        have HSS := Lib.hid hss2
        clear hr hf b0 g1 g2 g3 hus2 hss2
        by_cases hlt : i < b.length
        · obtain ⟨ad, hA1, cA⟩ := HAI.out.at i (by rw [HIL.out]; exact hlt)
          subst hA1
          have cA2 : wr.cell? (ad.add i) = some (.int .u8 ((b[i].toNat : Nat) : Int)) := by rw [cA]; simp [ints]
          obtain ⟨x, hx⟩ : ∃ x, b[i] = x := ⟨_, rfl⟩
          rw [hx] at cA2
          have HXI := Lib.hid hx
          clear cA hx
          have qi0 : (0 : Int) ≤ (i : Int) := by omega
          have qi1 : (i : Int) < (b.length : Int) := by omega
          go_wp2_with (first | (at_builtin; refine Kd.R_append kU (W := wr) (w0 := wr) 0 rfl (.tmp 107) (.tmp 110) 75 90 (.agg #[.bool false, .int .u8 0, .int .i64 0]) 16 rfl Try.underlying75 info90 rfl (by decide) (by decide) vu us ⟨false, (x.toNat : Int), 0⟩ [.bool false, .int .u8 (x.toNat : Int), .int .i64 0] (fun k => own1 k = some (.units f) ∨ wr.heap.size ≤ k) (fun _ => False) rfl rfl (kU_mkM _ _ _ _) (fun _ hk => hk.elim) (fun k hk => .inr hk) (Kd.R_mono HG2.out (fun k hk => .inl hk)) (Below.refl _ _) (by omega) (by omega) ?_; intro v1 w5 hr5 hb5 hg5 hat5; obtain ⟨A1, c1, rfl⟩ := Kd.R_slice hr5; have cu5 := cell_row hg5 cu hne2; have fu5 := frozen_row hg5 cu fu hne2; have HR5 := Lib.hid hr5; have HG5 := Lib.hid hg5; clear hr5 hb5 hat5 hg5))
          go_roundw
          case rel =>
            have hup := HRI.out.units hfl3 HB0.out HG5.out ((addU (b.take i) (d.tick.file f)).units ++ [.add x]) (by rw [List.map_append, HUS.out]; exact HR5.out)
            rw [setFile_setFile, List.length_append, List.length_singleton] at hup
            rw [setFile_congr d.tick f _ (addU (b.take (i + 1))) (fun _ => by
              rw [List.take_succ_eq_append_getElem hlt, HXI.out]
              simp [addU])] at hup
            exact ⟨i + 1, _, by omega, by go_num, hup.1, HFI.out.trans hup.2⟩
          case measure => simp [RowKit.intOf]; omega
        · have hib : i = b.length := by omega
          have HIB := Lib.hid hib
          have hil2 : (ints b).length ≤ 1000000000 := by rw [HIL.out]; omega
          go_wp2_with (first | (at_builtin; refine Kd.R_append_row (Value.int .u8) (0 : Int) (W := wr) (w0 := wr) 0 rfl (.tmp 119) (.tmp 120) 26 5 (.int .u8 0) 1 rfl Try.underlying26 info5 rfl (by decide) vs ss (ints b) A b.length c (fun k => own1 k = some (.seen f) ∨ wr.heap.size ≤ k) rfl rfl (fun k hk => .inr hk) (Kd.R_mono HG3.out (fun k hk => .inl hk)) (by rw [← HIL.out]; exact HAI.out.1) (Below.refl _ _) (by omega) (by omega) ?_; intro v1 w5 hr5 hb5 hg5 hat5; obtain ⟨A1, c1, rfl⟩ := Kd.R_slice hr5; have cs5 := cell_row hg5 cs hne3; have fs5 := frozen_row hg5 cs fs hne3; have HR5 := Lib.hid hr5; have HG5 := Lib.hid hg5; clear hr5 hb5 hat5 hg5)  | (go_at_call 58; refine ((HTO.out _).mono ?_); rintro e w9 ⟨rfl, rfl⟩))
          go_ret
          have hup := HRI.out.seens hfl3 HB0.out HG5.out ((d.tick.file f).seen ++ b) (by
            have e1 : ints ((d.tick.file f).seen ++ b) = ss ++ ints b := by rw [← HSS.out]; simp [ints, addU]
            rw [e1]; exact HR5.out)
          rw [setFile_setFile, List.length_append] at hup
          rw [setFile_congr d.tick f _ (Dk.give b) (fun _ => by
            rw [HIB.out, List.take_length]
            simp [addU, Dk.give])] at hup
          rw [HAP.out]
          exact ⟨rfl, Left.mk hup.1 (HFI.out.trans hup.2)⟩
    · cases toff
      all_goals
        go_wp2_with fail
        go_ret
        rw [HAP.out]
        exact ⟨by simp [HTOFF.out], Left.mk HR3.out ((Fr.of_below HB1.out).trans HF3.out)⟩
end Go.Proofs.Ytonecajkfbdnmaa.Dk

namespace Go.Proofs.Ytonecajkfbdnmaa.Dk
open Go.Lib Go.RowKit Go.ChangeMaps Go.Proofs.Ytonecajkfbdnmaa.Mp Go.Proofs.YtonecajkfbdnmaaW.PrintWords Go.Proofs.YtonecajkfbdnmaaW.PrintLast Go.Proofs.YtonecajkfbdnmaaW.PrintMore Go.Proofs.Ytonecajkfbdnmaa.PDiskRoom
set_option linter.unusedVariables false
set_option linter.unusedSimpArgs false

set_option maxRecDepth 100000 in
set_option maxHeartbeats 4000000 in
theorem append_new (own : Own) (w : World) (kd : Nat) (blk : Nat → Nat) (d : Dk) (h : Rep own w kd blk d) (hok : d.Ok) (h1 : d.strokes ≤ 1000000000) (h2 : d.count ≤ 1000000000) (hroom : d.room ≤ 67108864)
    (n : ByteArray) (hn : n.size ≤ big) (A : Option Addr) (c : Nat) (b : By) (hA : Out own w A (ints b)) (hbl : b.length ≤ 1000000000)
    (hun : ∀ f, f < d.files.length → (d.file f).units.length ≤ 1000000000 ∧ (d.file f).seen.length ≤ 1000000000) (hch : d.changes.length ≤ 1000000000) (hfind : d.find n = (none, 112)) (hget : aget d.names n = none) (hnl : d.names.length < 64) :
    Calls Try.prog 48 #[ptr kd, .string n, .slice A b.length c] w (Ends own w kd (d.append n b)) := by
  have HF := Lib.hid (find_walk own w kd blk d h n hn)
  rw [hfind] at HF
  have HGET := Lib.hid hget
  have HCH := Lib.hid hch
  have hAP : d.append n b = if d.tick.tight b.length then (d.tick, if d.tick.off then 115 else 114) else ((d.tick.fresh.change (.makes n d.files.length)).setFile d.files.length (Dk.give b), d.tick.told) := by
    unfold Dk.append Dk.tight
    rw [hfind]
    have hnl2 : ¬ 64 ≤ d.names.length := by omega
    simp [hnl2, Dk.tick, Dk.used, Dk.file]
  obtain ⟨X, hX⟩ : ∃ X, d.tick.tight b.length = X := ⟨_, rfl⟩
  rw [hX] at hAP
  have HX := Lib.hid hX
  have HAP := Lib.hid hAP
  have HH := Lib.hid h
  have HOK := Lib.hid hok
  have HA := Lib.hid hA
  have HUN := Lib.hid hun
  obtain ⟨kn0, ks0, vc0, hb0, hlen0⟩ := h.len_run hok.sn
  have hnl3 : (d.names.length : Int) < 64 := by omega
  clear h hok hA hun hfind hget hAP hX hch
  have hil : (ints b).length = b.length := ints_length b
  have HIL := Lib.hid hil
  clear hil
  unfold ptr at HF ⊢
  go_enter Try.func48, Try.ntmps48
  go_wp2_with fail
  refine HF.out.mono ?_
  rintro e w1 ⟨rfl, m, hw1⟩
  have hb1 : Below w.heap.size w w1 := hw1 ▸ below_drewN' w m
  have HS := Lib.hid (stroke_walk own w1 kd blk d (HH.out.below hb1) (by omega) (by omega))
  have HB1 := Lib.hid hb1
  obtain ⟨toff, htoff⟩ : ∃ t, d.tick.off = t := ⟨_, rfl⟩
  rw [htoff] at HS
  have HTOFF := Lib.hid htoff
  have hlen1 := hlen0 w1 (by rw [hw1]; rfl)
  have cn1 := blk_cell (blk_below hb0 hb1) 2
  simp [cells] at cn1
  unfold goInt at hlen1
  clear hw1 hb1 htoff hb0 hlen0
  unfold fptr ptr
  unfold ptr at HS
  go_wp2_with fail
  refine HS.out.mono ?_
  rintro e w2 ⟨rfl, hr2, hf2⟩
  clear cn1 hlen1
  have HR2 := Lib.hid hr2
  have HF2 := Lib.hid hf2
  clear hr2 hf2
  go_wp2_with fail
  obtain ⟨kn, ks, vc, hb2, _⟩ := HR2.out.disk
  have hso := HOK.out.sn
  have hus : d.used ≤ d.room := HOK.out.room
  have HU := Lib.hid (fun W (hW : Rep own W kd blk d.tick) => used_walk own W kd blk d.tick hW hso HOK.out.lt (by show d.used ≤ big; unfold big; omega))
  have c0 := blk_cell hb2 0
  have c6 := blk_cell hb2 6
  have c8 := blk_cell hb2 8
  have c9 := blk_cell hb2 9
  simp [cells] at c0
  have HSO := Lib.hid hso
  have HB2 := Lib.hid hb2
  clear hb2 hso c6 c8 c9
  go_cut [86] from 45 to 86 (fun v86 wx => v86 = .bool X ∧ Below w2.heap.size w2 wx)
  case first =>
    clear HAP
    have hXe : X = ((decide (d.plan.from_ ≤ (d.count : Int) + 1) && (decide ((d.count : Int) + 1 ≤ d.plan.to_) && decide (0 < d.plan.from_))) || decide ((b.length : Int) > (d.room : Int) - (d.used : Int))) := by
      rw [← HX.out]
      unfold Dk.tight Dk.planFull
      have e1 : d.tick.used = d.used := rfl
      have e2 : d.tick.room = d.room := rfl
      have e3 : (d.tick.count : Int) = (d.count : Int) + 1 := by simp [Dk.tick]
      have e4 : d.tick.plan = d.plan := rfl
      rw [e1, e2, e3, e4]
      congr 1
      rw [decide_eq_decide]
      omega
    have HXE := Lib.hid hXe
    clear hXe
    have hcC : ((d.tick.count : Nat) : Int) = (d.count : Int) + 1 := by simp [Dk.tick]
    obtain ⟨C, hC⟩ : ∃ C : Int, (d.count : Int) + 1 = C := ⟨_, rfl⟩
    obtain ⟨F, hF⟩ : ∃ F : Int, d.plan.from_ = F := ⟨_, rfl⟩
    obtain ⟨T, hT⟩ : ∃ T : Int, d.plan.to_ = T := ⟨_, rfl⟩
    obtain ⟨U, hU⟩ : ∃ U : Int, (d.used : Int) = U := ⟨_, rfl⟩
    obtain ⟨R, hR⟩ : ∃ R : Int, (d.room : Int) = R := ⟨_, rfl⟩
    have hRU : 0 ≤ U ∧ U ≤ R ∧ R ≤ 67108864 := by omega
    obtain ⟨hU0, hUR, hR0⟩ := hRU
    rw [hC, hF, hT, hU, hR] at HXE
    have e4 : d.tick.plan = d.plan := rfl
    have q6 : w2.cell? ⟨kd, 6, none⟩ = some (.int .i64 C) := by rw [← hC, ← hcC]; exact blk_cell HB2.out 6
    have q8 : w2.cell? ⟨kd, 8, none⟩ = some (.int .i64 F) := by rw [← hF, ← e4]; exact blk_cell HB2.out 8
    have q9 : w2.cell? ⟨kd, 9, none⟩ = some (.int .i64 T) := by rw [← hT, ← e4]; exact blk_cell HB2.out 9
    have HUD := Lib.hid (fun i : Cls w2 => HU.out i.at (HR2.out.below i.below))
    unfold ptr at HUD
    have e5 : d.tick.used = d.used := rfl
    rw [e5, hU] at HUD
    have hwr : IntKind.i64.wrap (R - U) = R - U := IntWalk.i64_in _ (by omega)
    replace c0 : w2.cell? ⟨kd, 0, none⟩ = some (.int .i64 R) := by rw [← hR]; exact blk_cell HB2.out 0
    clear hcC hC hF hT hU hR e4 e5
    have r0 : ∀ i : Cls w2, i.at.cell? ⟨kd, 0, none⟩ = some (.int .i64 R) := fun i => i.cell c0
    have r6 : ∀ i : Cls w2, i.at.cell? ⟨kd, 6, none⟩ = some (.int .i64 C) := fun i => i.cell q6
    have r8 : ∀ i : Cls w2, i.at.cell? ⟨kd, 8, none⟩ = some (.int .i64 F) := fun i => i.cell q8
    have r9 : ∀ i : Cls w2, i.at.cell? ⟨kd, 9, none⟩ = some (.int .i64 T) := fun i => i.cell q9
    clear c0 q6 q8 q9
    by_cases p1 : F ≤ C
    · have hd1 : decide (F ≤ C) = true := by simpa using p1
      by_cases p2 : C ≤ T
      · have hd2 : decide (C ≤ T) = true := by simpa using p2
        by_cases p3 : 0 < F
        · have hd3 : decide (0 < F) = true := by simpa using p3
          refine wp_region_cls (by kernel_rfl) (by kernel_rfl) ?_
          repeat (go_big_quiet_step ((refine cls_call (HUD.out _))))
          refine wpQuiet_nil ?_
          rintro wy ⟨i, rfl⟩
          go_wp2_with fail
          go_meet
          case rel => exact ⟨by rw [HXE.out]; simp [hd1, hd2, hd3], i.below⟩
        · have hd3 : decide (0 < F) = false := by simpa using p3
          refine wp_region_cls (by kernel_rfl) (by kernel_rfl) ?_
          repeat (go_big_quiet_step ((refine cls_call (HUD.out _))))
          refine wpQuiet_nil ?_
          rintro wy ⟨i, rfl⟩
          go_wp2_with fail
          go_meet
          case rel => exact ⟨by rw [HXE.out]; simp [hd1, hd2, hd3], i.below⟩
      · have hd2 : decide (C ≤ T) = false := by simpa using p2
        refine wp_region_cls (by kernel_rfl) (by kernel_rfl) ?_
        repeat (go_big_quiet_step ((refine cls_call (HUD.out _))))
        refine wpQuiet_nil ?_
        rintro wy ⟨i, rfl⟩
        go_wp2_with fail
        go_meet
        case rel => exact ⟨by rw [HXE.out]; simp [hd1, hd2], i.below⟩
    · have hd1 : decide (F ≤ C) = false := by simpa using p1
      refine wp_region_cls (by kernel_rfl) (by kernel_rfl) ?_
      repeat (go_big_quiet_step ((refine cls_call (HUD.out _))))
      refine wpQuiet_nil ?_
      rintro wy ⟨i, rfl⟩
      go_wp2_with fail
      go_meet
      case rel => exact ⟨by rw [HXE.out]; simp [hd1], i.below⟩
  case rest =>
    obtain ⟨rfl, hb3⟩ := hcut
    have hr3 := HR2.out.below hb3
    have HR3 := Lib.hid hr3
    have HF3 := Lib.hid (HF2.out.trans (Fr.of_below hb3))
    clear hr3 hb3
    cases X
    · obtain ⟨hr4, hf4⟩ := HR3.out.fresh HOK.out.sn HOK.out.ss HOK.out.lt HOK.out.lts HOK.out.ltc
      have HA4 := Lib.hid (HA.out.keep (((Fr.of_below HB1.out).trans HF3.out).trans hf4))
      have hW4 := ((Fr.of_below HB1.out).trans HF3.out).trans hf4
      obtain ⟨blk5, hblk5⟩ : ∃ k, blkx blk d.tick.files.length wc.heap.size = k := ⟨_, rfl⟩
      have hbF : wc.heap.size = blk5 d.files.length := by rw [← hblk5]; exact (blkx_same _ _ _).symm
      rw [hblk5] at hr4
      have HC := Lib.hid (change_walk _ _ kd blk5 d.tick.fresh hr4 (.makes n d.files.length) HGET.out HOK.out.sn (by show d.changes.length ≤ _; exact HCH.out))
      unfold ptr encC at HC
      simp only [← hbF] at HC
      have HW4 := Lib.hid hW4
      have HBF := Lib.hid hbF
      have hto : ∀ w, Calls Try.prog 58 #[.bool toff] w fun e w' => e = .returned (.int .i64 (d.tick.told : Int)) ∧ w' = w := fun w => by
        have h9 := told_is d.tick w
        rw [HTOFF.out] at h9
        exact h9
      have HTO := Lib.hid hto
      obtain ⟨D, hD⟩ : ∃ D, d.tick.fresh.change (.makes n d.files.length) = D := ⟨_, rfl⟩
      rw [hD] at HC HAP
      have hfl : d.files.length < D.files.length := by rw [← hD]; simp [Dk.change, Dk.fresh, Dk.tick]
      have hud : (D.file d.files.length).units.length ≤ 1000000000 ∧ (D.file d.files.length).seen.length ≤ 1000000000 := by
        have e : D.file d.files.length = ⟨[], [], []⟩ := by rw [← hD]; simp [Dk.change, Dk.fresh, Dk.tick, Dk.file]
        rw [e]; simp
      obtain ⟨f, hfF⟩ : ∃ f, d.files.length = f := ⟨_, rfl⟩
      rw [hfF] at hfl hud HAP HBF
      clear HX hr4 hf4 hW4 hblk5 hbF hto hD hfF
      go_wp2_with (first | (go_at_call 57; refine HC.out.mono ?_; rintro e w5 ⟨rfl, own5, hr5, hf5⟩; have HR5 := Lib.hid hr5; have HW := Lib.hid (HW4.out.trans hf5); clear hr5 hf5))
      have HA3 := Lib.hid (HA.out.keep HW.out)
      have hfl2 : f < D.files.length := hfl
      rw [HBF.out]
      go_loopw [99] (fun v99 wr => ∃ (i : Nat) (own1 : Own), i ≤ b.length ∧ v99 = .int .i64 i ∧ Rep own1 wr kd blk5 (D.setFile f (addU (b.take i))) ∧ Fr own own1 w wr) (fun v99 _ => b.length - (RowKit.intOf v99).toNat)
      case atStart =>
        refine ⟨0, own5, Nat.zero_le _, rfl, ?_, HW.out⟩
        have e : D.setFile f (addU (b.take 0)) = D := by
          rw [setFile_congr D f (addU (b.take 0)) (fun x => x) (fun _ => by simp [addU]), setFile_id]
        rw [e]; exact HR5.out
      case round =>
        obtain ⟨i, own1, hi, rfl, hr, hf⟩ := hrel
        have HRI := Lib.hid hr
        have HFI := Lib.hid hf
        have HAI := Lib.hid (HA.out.keep hf)
        have hfl3 : f < (D.setFile f (addU (b.take i))).files.length := by rw [setFile_len]; exact hfl
        obtain ⟨vk, vu, vs, b0, g1, g2, g3⟩ := hr.rows hfl3
        rw [setFile_file _ _ _ hfl2] at g1 g2 g3
        have cu := blk_cell b0 1
        have cs := blk_cell b0 2
        have fu := blk_frozen b0 1
        have fs := blk_frozen b0 2
        simp at cu cs
        have HB0 := Lib.hid b0
        have HG2 := Lib.hid g2
        have HG3 := Lib.hid g3
        have hne2 : some (blk5 f) ≠ vu.ownBlock := fun e => by have h1 : own1 (blk5 f) = some (.units f) := g2.1 _ e.symm; rw [hr.fl f hfl3] at h1; cases h1
        have hne3 : some (blk5 f) ≠ vs.ownBlock := fun e => by have h1 : own1 (blk5 f) = some (.seen f) := g3.1 _ e.symm; rw [hr.fl f hfl3] at h1; cases h1
        have hlu : (((addU (b.take i) (D.file f)).units).map encU).length ≤ 3000000000 := by
          rw [List.length_map]
          have e1 : (D.file f).units.length ≤ 1000000000 := hud.1
          simp [addU]; omega
        have hls : (ints ((addU (b.take i) (D.file f)).seen)).length ≤ 1000000000 := by
          rw [ints_length]; exact hud.2
        obtain ⟨us, hus2⟩ : ∃ us, ((addU (b.take i) (D.file f)).units).map encU = us := ⟨_, rfl⟩
        obtain ⟨ss, hss2⟩ : ∃ ss, ints ((addU (b.take i) (D.file f)).seen) = ss := ⟨_, rfl⟩
        rw [hus2] at HG2 hlu
        rw [hss2] at HG3 hls
        have HUS := Lib.hid hus2
        have HSS := Lib.hid hss2
        clear hr hf b0 g1 g2 g3 hus2 hss2
        by_cases hlt : i < b.length
        · obtain ⟨ad, hA1, cA⟩ := HAI.out.at i (by rw [HIL.out]; exact hlt)
          subst hA1
          have cA2 : wr.cell? (ad.add i) = some (.int .u8 ((b[i].toNat : Nat) : Int)) := by rw [cA]; simp [ints]
          obtain ⟨x, hx⟩ : ∃ x, b[i] = x := ⟨_, rfl⟩
          rw [hx] at cA2
          have HXI := Lib.hid hx
          clear cA hx
          have qi0 : (0 : Int) ≤ (i : Int) := by omega
          have qi1 : (i : Int) < (b.length : Int) := by omega
          go_wp2_with (first | (at_builtin; refine Kd.R_append kU (W := wr) (w0 := wr) 0 rfl (.tmp 107) (.tmp 110) 75 90 (.agg #[.bool false, .int .u8 0, .int .i64 0]) 16 rfl Try.underlying75 info90 rfl (by decide) (by decide) vu us ⟨false, (x.toNat : Int), 0⟩ [.bool false, .int .u8 (x.toNat : Int), .int .i64 0] (fun k => own1 k = some (.units f) ∨ wr.heap.size ≤ k) (fun _ => False) rfl rfl (kU_mkM _ _ _ _) (fun _ hk => hk.elim) (fun k hk => .inr hk) (Kd.R_mono HG2.out (fun k hk => .inl hk)) (Below.refl _ _) (by omega) (by omega) ?_; intro v1 w5 hr5 hb5 hg5 hat5; obtain ⟨A1, c1, rfl⟩ := Kd.R_slice hr5; have cu5 := cell_row hg5 cu hne2; have fu5 := frozen_row hg5 cu fu hne2; have HR5 := Lib.hid hr5; have HG5 := Lib.hid hg5; clear hr5 hb5 hat5 hg5))
          go_roundw
          case rel =>
            have hup := HRI.out.units hfl3 HB0.out HG5.out ((addU (b.take i) (D.file f)).units ++ [.add x]) (by rw [List.map_append, HUS.out]; exact HR5.out)
            rw [setFile_setFile, List.length_append, List.length_singleton] at hup
            rw [setFile_congr D f _ (addU (b.take (i + 1))) (fun _ => by
              rw [List.take_succ_eq_append_getElem hlt, HXI.out]
              simp [addU])] at hup
            exact ⟨i + 1, _, by omega, by go_num, hup.1, HFI.out.trans hup.2⟩
          case measure => simp [RowKit.intOf]; omega
        · have hib : i = b.length := by omega
          have HIB := Lib.hid hib
          have hil2 : (ints b).length ≤ 1000000000 := by rw [HIL.out]; omega
          go_wp2_with (first | (at_builtin; refine Kd.R_append_row (Value.int .u8) (0 : Int) (W := wr) (w0 := wr) 0 rfl (.tmp 119) (.tmp 120) 26 5 (.int .u8 0) 1 rfl Try.underlying26 info5 rfl (by decide) vs ss (ints b) A b.length c (fun k => own1 k = some (.seen f) ∨ wr.heap.size ≤ k) rfl rfl (fun k hk => .inr hk) (Kd.R_mono HG3.out (fun k hk => .inl hk)) (by rw [← HIL.out]; exact HAI.out.1) (Below.refl _ _) (by omega) (by omega) ?_; intro v1 w5 hr5 hb5 hg5 hat5; obtain ⟨A1, c1, rfl⟩ := Kd.R_slice hr5; have cs5 := cell_row hg5 cs hne3; have fs5 := frozen_row hg5 cs fs hne3; have HR5 := Lib.hid hr5; have HG5 := Lib.hid hg5; clear hr5 hb5 hat5 hg5)  | (go_at_call 58; refine ((HTO.out _).mono ?_); rintro e w9 ⟨rfl, rfl⟩))
          go_ret
          have hup := HRI.out.seens hfl3 HB0.out HG5.out ((D.file f).seen ++ b) (by
            have e1 : ints ((D.file f).seen ++ b) = ss ++ ints b := by rw [← HSS.out]; simp [ints, addU]
            rw [e1]; exact HR5.out)
          rw [setFile_setFile, List.length_append] at hup
          rw [setFile_congr D f _ (Dk.give b) (fun _ => by
            rw [HIB.out, List.take_length]
            simp [addU, Dk.give])] at hup
          rw [HAP.out]
          exact ⟨rfl, Left.mk hup.1 (HFI.out.trans hup.2)⟩
    · cases toff
      all_goals
        go_wp2_with fail
        go_ret
        rw [HAP.out]
        exact ⟨by simp [HTOFF.out], Left.mk HR3.out ((Fr.of_below HB1.out).trans HF3.out)⟩

set_option maxRecDepth 100000 in
set_option maxHeartbeats 4000000 in
theorem append_bad (own : Own) (w : World) (kd : Nat) (blk : Nat → Nat) (d : Dk) (h : Rep own w kd blk d) (hsn : Srt d.names) (n : ByteArray) (hn : n.size ≤ big) (A : Option Addr) (c : Nat) (b : By) (hbl : b.length ≤ 1000000000)
    (hf : d.find n = (none, 111) ∨ d.find n = (none, 115) ∨ (d.find n = (none, 112) ∧ 64 ≤ d.names.length)) :
    Calls Try.prog 48 #[ptr kd, .string n, .slice A b.length c] w (Ends own w kd (d.append n b)) := by
  have HF := Lib.hid (find_walk own w kd blk d h n hn)
  have HH := Lib.hid h
  obtain ⟨kn0, ks0, vc0, hb0, hlen0⟩ := h.len_run hsn
  clear h hsn
  rcases hf with hf | hf | ⟨hf, hnl⟩
  rotate_left 2
  · have hAP : d.append n b = (d, 111) := by unfold Dk.append; rw [hf]; simp [hnl]
    have HAP := Lib.hid hAP
    rw [hf] at HF
    have hnl3 : 64 ≤ (d.names.length : Int) := by omega
    clear hf hAP hnl
    unfold ptr at HF ⊢
    go_enter Try.func48, Try.ntmps48
    go_wp2_with fail
    refine HF.out.mono ?_
    rintro e w1 ⟨rfl, m, hw1⟩
    have hb1 : Below w.heap.size w w1 := hw1 ▸ below_drewN' w m
    have hlen1 := hlen0 w1 (by rw [hw1]; rfl)
    have cn1 := blk_cell (blk_below hb0 hb1) 2
    simp [cells] at cn1
    unfold goInt at hlen1
    have HB1 := Lib.hid hb1
    clear hw1 hb1 hb0 hlen0
    unfold fptr
    go_wp2_with fail
    go_ret
    rw [HAP.out]
    exact ⟨rfl, Left.same HH.out HB1.out⟩
  all_goals
    clear hb0 hlen0
    have hAP : d.append n b = (d, (d.find n).2) := by unfold Dk.append; rw [hf]; simp
    have HAP := Lib.hid hAP
    rw [hf] at HF HAP
    clear hf hAP
    unfold ptr at HF ⊢
    go_enter Try.func48, Try.ntmps48
    go_wp2_with fail
    refine HF.out.mono ?_
    rintro e w1 ⟨rfl, m, hw1⟩
    have HB1 := Lib.hid (show Below w.heap.size w w1 from hw1 ▸ below_drewN' w m)
    clear hw1
    unfold fptr
    go_wp2_with fail
    go_ret
    rw [HAP.out]
    exact ⟨rfl, Left.same HH.out HB1.out⟩
/-- What is small enough for the walks. -/
structure Bd (d : Dk) (B : Nat) : Prop where
  strokes : d.strokes ≤ B
  count : d.count ≤ B
  changes : d.changes.length ≤ B
  units : ∀ f, f < d.files.length → (d.file f).units.length ≤ B
  seen : ∀ f, f < d.files.length → (d.file f).seen.length ≤ B
  kept : ∀ f, f < d.files.length → (d.file f).kept.length ≤ B
  room : d.room ≤ 67108864
theorem append_walk (own : Own) (w : World) (kd : Nat) (blk : Nat → Nat) (d : Dk) (h : Rep own w kd blk d) (hok : d.Ok) (B : Nat) (hbd : Bd d B) (hB : B ≤ 1000000000)
    (n : ByteArray) (hn : n.size ≤ big) (A : Option Addr) (c : Nat) (b : By) (hA : Out own w A (ints b)) (hbl : b.length ≤ 1000000000) :
    Calls Try.prog 48 #[ptr kd, .string n, .slice A b.length c] w (Ends own w kd (d.append n b)) := by
  have hun : ∀ f, f < d.files.length → (d.file f).units.length ≤ 1000000000 ∧ (d.file f).seen.length ≤ 1000000000 := fun f hf => ⟨Nat.le_trans (hbd.units f hf) hB, Nat.le_trans (hbd.seen f hf) hB⟩
  rcases find_cases d n with ⟨f, hf, hg, _⟩ | ⟨hf, hg, _⟩ | ⟨hf, _⟩ | ⟨hf, _⟩
  · exact append_old own w kd blk d h hok (Nat.le_trans hbd.strokes hB) (Nat.le_trans hbd.count hB) hbd.room n hn A c b hA hbl hun f hf hg
  · by_cases hl : d.names.length < 64
    · exact append_new own w kd blk d h hok (Nat.le_trans hbd.strokes hB) (Nat.le_trans hbd.count hB) hbd.room n hn A c b hA hbl hun (Nat.le_trans hbd.changes hB) hf hg hl
    · exact append_bad own w kd blk d h hok.sn n hn A c b hbl (.inr (.inr ⟨hf, by omega⟩))
  · exact append_bad own w kd blk d h hok.sn n hn A c b hbl (.inl hf)
  · exact append_bad own w kd blk d h hok.sn n hn A c b hbl (.inr (.inl hf))
end Go.Proofs.Ytonecajkfbdnmaa.Dk
