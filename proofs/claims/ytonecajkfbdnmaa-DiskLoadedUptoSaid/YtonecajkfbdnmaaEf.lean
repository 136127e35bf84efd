/- The walk of Cut. -/
import Derived.Test.YtonecajkfbdnmaaEe
namespace Go.Proofs.Ytonecajkfbdnmaa.Dk
open Go.Lib Go.RowKit Go.ChangeMaps Go.Proofs.Ytonecajkfbdnmaa.Mp Go.Proofs.YtonecajkfbdnmaaW.PrintWords Go.Proofs.YtonecajkfbdnmaaW.PrintLast Go.Proofs.YtonecajkfbdnmaaW.PrintMore Go.Proofs.Ytonecajkfbdnmaa.PDiskRoom
set_option linter.unusedVariables false
set_option linter.unusedSimpArgs false

set_option maxRecDepth 100000 in
set_option maxHeartbeats 4000000 in
theorem cut_walk (own : Own) (w : World) (kd : Nat) (blk : Nat → Nat) (d : Dk) (h : Rep own w kd blk d) (hok : d.Ok) (B : Nat) (hbd : Bd d B) (hB : B ≤ 1000000000) (n : ByteArray) (hn : n.size ≤ big) (k : Int) :
    Calls Try.prog 49 #[ptr kd, .string n, .int .i64 k] w (Ends own w kd (d.cut n k)) := by
  have HF := Lib.hid (find_walk own w kd blk d h n hn)
  have HH := Lib.hid h
  rcases find_cases d n with ⟨f, hf, hg, _⟩ | ⟨hf, _⟩ | ⟨hf, _⟩ | ⟨hf, _⟩
  · have hfl : f < d.files.length := hok.lt (n, f) ((mem_aget hok.sn n f).2 hg)
    have h1 : d.strokes ≤ 2305843009213693952 := by have := hbd.strokes; omega
    have h2 : d.count ≤ 2305843009213693952 := by have := hbd.count; omega
    have hsl := hbd.seen f hfl
    have hul := hbd.units f hfl
    have hAP : d.cut n k = if 0 ≤ k ∧ k ≤ (d.file f).seen.length then (d.tick.setFile f (Dk.cutF k.toNat), d.tick.told) else (d, 113) := by unfold Dk.cut; rw [hf]
    rw [hf] at HF
    obtain ⟨vk, vu, A, c, hb, hc, _⟩ := h.seen f hfl
    have HB := Lib.hid hb
    obtain ⟨L, hL⟩ : ∃ L, (d.file f).seen.length = L := ⟨_, rfl⟩
    rw [hL] at HB hAP hsl hc
    have HAP := Lib.hid hAP
    have HL := Lib.hid hL
    clear hf hAP hb hok hbd h hL
    by_cases hk0 : 0 ≤ k
    · obtain ⟨m, rfl⟩ := Int.eq_ofNat_of_zero_le hk0
      by_cases hkL : m ≤ L
      · rw [if_pos ⟨hk0, by omega⟩, Int.toNat_natCast] at HAP
        unfold ptr at HF ⊢
        go_enter Try.func49, Try.ntmps49
        go_wp2_with fail
        refine HF.out.mono ?_
        rintro e w1 ⟨rfl, q, hw1⟩
        have hb1 : Below w.heap.size w w1 := hw1 ▸ below_drewN' w q
        have c2 := blk_cell (blk_below HB.out hb1) 2
        simp at c2
        have HS := Lib.hid (stroke_walk own w1 kd blk d (HH.out.below hb1) h1 h2)
        have HB1 := Lib.hid hb1
        obtain ⟨toff, htoff⟩ : ∃ t, d.tick.off = t := ⟨_, rfl⟩
        rw [htoff] at HS
        have hto : ∀ w, Calls Try.prog 58 #[.bool toff] w fun e w' => e = .returned (.int .i64 (d.tick.told : Int)) ∧ w' = w := fun w => by
          have h9 := told_is d.tick w
          rw [htoff] at h9
          exact h9
        have HTO := Lib.hid hto
        have hkL2 : (m : Int) ≤ (L : Int) := by omega
        clear hw1 hb1 htoff hto
        unfold fptr ptr
        unfold ptr at HS
        go_wp2_with fail
        refine HS.out.mono ?_
        rintro e w2 ⟨rfl, hr2, hf2⟩
        have HR2 := Lib.hid hr2
        have HF2 := Lib.hid ((Fr.of_below HB1.out).trans hf2)
        have hfl2 : f < d.tick.files.length := hfl
        obtain ⟨vk2, vu2, vs2, b0, g1, g2, g3⟩ := hr2.rows hfl2
        obtain ⟨A3, c3, rfl⟩ := Kd.R_slice g3
        have hil : (ints (d.tick.file f).seen).length = L := by rw [ints_length]; exact HL.out
        rw [hil] at b0
        have cu := blk_cell b0 1
        have cs := blk_cell b0 2
        have fu := blk_frozen b0 1
        simp at cu cs
        have HB0 := Lib.hid b0
        have HG2 := Lib.hid g2
        have hne2 : some (blk f) ≠ vu2.ownBlock := fun e => by have h1 : own (blk f) = some (.units f) := g2.1 _ e.symm; rw [hr2.fl f hfl2] at h1; cases h1
        have hlu : (((d.tick.file f).units).map encU).length ≤ 1000000000 := by rw [List.length_map]; show (d.file f).units.length ≤ _; omega
        obtain ⟨us, hus2⟩ : ∃ us, ((d.tick.file f).units).map encU = us := ⟨_, rfl⟩
        rw [hus2] at HG2 hlu
        have HUS := Lib.hid hus2
        clear hr2 hf2 b0 g1 g2 g3 hil hus2 c2
        by_cases hlt : m < L
        · have hlt2 : (m : Int) < (L : Int) := by omega
          go_upto_region 9 with (first | (at_builtin; refine Kd.R_append kU (W := w2) (w0 := w2) 0 rfl (.tmp 43) (.tmp 46) 75 90 (.agg #[.bool false, .int .u8 0, .int .i64 0]) 16 rfl Try.underlying75 info90 rfl (by decide) (by decide) vu2 us ⟨true, 0, (m : Int)⟩ [.bool true, .int .u8 0, .int .i64 (m : Int)] (fun k => own k = some (.units f) ∨ w2.heap.size ≤ k) (fun _ => False) rfl rfl (kU_mkM _ _ _ _) (fun _ hk => hk.elim) (fun k hk => .inr hk) (Kd.R_mono HG2.out (fun k hk => .inl hk)) (Below.refl _ _) (by omega) (by omega) ?_; intro v1 w5 hr5 hb5 hg5 hat5; obtain ⟨A1, c1, rfl⟩ := Kd.R_slice hr5; have cu5 := cell_row hg5 cu hne2; have fu5 := frozen_row hg5 cu fu hne2; have HR5 := Lib.hid hr5; have HG5 := Lib.hid hg5; clear hr5 hb5 hat5 hg5))
          have hup := HR2.out.units hfl2 HB0.out HG5.out ((d.tick.file f).units ++ [.cut m]) (by rw [List.map_append, HUS.out]; exact HR5.out)
          rw [List.length_append, List.length_singleton] at hup
          obtain ⟨w3, hw3⟩ : ∃ w3, w5.setCell ⟨blk f, 1, none⟩ (.slice A1 (us.length + 1) c1) = w3 := ⟨_, rfl⟩
          rw [hw3] at hup ⊢
          have hfl3 : f < (d.tick.setFile f (fun x => { x with units := (d.tick.file f).units ++ [.cut m] })).files.length := by rw [setFile_len]; exact hfl2
          obtain ⟨vk3, vu3, vs3, b3, g1, g2, g3⟩ := hup.1.rows hfl3
          rw [setFile_file _ _ _ hfl2] at g3
          obtain ⟨A4, c4, rfl⟩ := Kd.R_slice g3
          have hil4 : (ints (d.tick.file f).seen).length = L := by rw [ints_length]; exact HL.out
          have hcap : L ≤ c4 := by have h9 := (Kd.R_reads' g3).2.1; rw [show (ints ({ (d.tick.file f) with units := (d.tick.file f).units ++ [.cut m] } : Fl).seen).length = L from hil4] at h9; exact h9
          rw [show (ints ({ (d.tick.file f) with units := (d.tick.file f).units ++ [.cut m] } : Fl).seen).length = L from hil4] at b3 g3
          have cs3 := blk_cell b3 2
          have fs3 := blk_frozen b3 2
          simp at cs3
          obtain ⟨i5, hi5, hi5z, hi5s, _⟩ := info_parts info5
          have hsl9 := (print_take_int (P := Try.prog) (k := .u8) 26 5 Try.underlying26 hi5 hi5s A4 c4 (ints (d.tick.file f).seen) (m : Int) (by omega) (by rw [hil4]; omega) (by rw [hil4]; exact hcap)).1
          rw [hil4, Int.toNat_natCast, List.length_take, hil4, Nat.min_eq_left hkL] at hsl9
          have HUP := Lib.hid hup
          have HB3 := Lib.hid b3
          have hg3m := Kd.R_take g3 (m := m) (by rw [hil4]; exact hkL)
          have HG3 := Lib.hid hg3m
          clear hw3 hup b3 g1 g2 g3 hil4 hg3m hi5 hi5z hi5s cu cs fu cu5 fu5
          go_wp2_with (first | (go_at_call 58; refine ((HTO.out _).mono ?_); rintro e w9 ⟨rfl, rfl⟩))
          go_ret
          have hs9 := HUP.out.1.seens hfl3 HB3.out (World.grownBy.refl _ _) ((d.tick.file f).seen.take m) (Kd.R_mono (by
            have e1 : ints ((d.tick.file f).seen.take m) = (ints (d.tick.file f).seen).take m := by simp [ints, List.map_take]
            rw [e1]; exact HG3.out) (fun k hk => .inl hk))
          rw [setFile_setFile] at hs9
          rw [setFile_congr d.tick f _ (Dk.cutF m) (fun _ => by
            have e2 : m < (d.tick.file f).seen.length := by rw [show (d.tick.file f).seen.length = L from HL.out]; exact hlt
            simp [Dk.cutF, e2])] at hs9
          rw [HAP.out]
          exact ⟨rfl, Left.mk hs9.1 (HF2.out.trans (HUP.out.2.trans hs9.2))⟩
        · have hge : ¬ (m : Int) < (L : Int) := by omega
          go_wp2_with (first | (go_at_call 58; refine ((HTO.out _).mono ?_); rintro e w9 ⟨rfl, rfl⟩))
          go_ret
          rw [HAP.out]
          have e : d.tick.setFile f (Dk.cutF m) = d.tick := by
            rw [setFile_congr d.tick f (Dk.cutF m) (fun x => x) (fun _ => by
              have e2 : ¬ m < (d.tick.file f).seen.length := by rw [show (d.tick.file f).seen.length = L from HL.out]; exact hlt
              simp [Dk.cutF, e2]), setFile_id]
          rw [e]
          exact ⟨rfl, Left.mk HR2.out HF2.out⟩
      · have hkL2 : (L : Int) < (m : Int) := by omega
        rw [if_neg (by omega)] at HAP
        unfold ptr at HF ⊢
        go_enter Try.func49, Try.ntmps49
        go_wp2_with fail
        refine HF.out.mono ?_
        rintro e w1 ⟨rfl, q, hw1⟩
        have hb1 : Below w.heap.size w w1 := hw1 ▸ below_drewN' w q
        have c2 := blk_cell (blk_below HB.out hb1) 2
        simp at c2
        have HB1 := Lib.hid hb1
        clear hw1 hb1
        unfold fptr ptr
        go_wp2_with fail
        go_ret
        rw [HAP.out]
        exact ⟨rfl, Left.same HH.out HB1.out⟩
    · have hk1 : k < 0 := by omega
      rw [if_neg (by omega)] at HAP
      unfold ptr at HF ⊢
      go_enter Try.func49, Try.ntmps49
      go_wp2_with fail
      refine HF.out.mono ?_
      rintro e w1 ⟨rfl, q, hw1⟩
      have HB1 := Lib.hid (show Below w.heap.size w w1 from hw1 ▸ below_drewN' w q)
      clear hw1
      unfold fptr ptr
      go_wp2_with fail
      go_ret
      rw [HAP.out]
      exact ⟨rfl, Left.same HH.out HB1.out⟩
  all_goals
    have hrm : d.cut n k = (d, (d.find n).2) := by unfold Dk.cut; rw [hf]
    rw [hrm, hf]
    rw [hf] at HF
    clear hf hrm h
    unfold ptr at HF ⊢
    go_enter Try.func49, Try.ntmps49
    go_wp2_with fail
    refine HF.out.mono ?_
    rintro e w1 ⟨rfl, m, hw1⟩
    have HB1 := Lib.hid (show Below w.heap.size w w1 from hw1 ▸ below_drewN' w m)
    clear hw1
    unfold fptr
    go_wp2_with fail
    go_ret
    exact ⟨rfl, Left.same HH.out HB1.out⟩
end Go.Proofs.Ytonecajkfbdnmaa.Dk

namespace Go.Proofs.Ytonecajkfbdnmaa.Dk
open Go.Lib Go.RowKit Go.ChangeMaps Go.Proofs.Ytonecajkfbdnmaa.Mp Go.Proofs.YtonecajkfbdnmaaW.PrintWords Go.Proofs.YtonecajkfbdnmaaW.PrintLast Go.Proofs.YtonecajkfbdnmaaW.PrintMore Go.Proofs.Ytonecajkfbdnmaa.PDiskRoom
set_option linter.unusedVariables false
set_option linter.unusedSimpArgs false

theorem setCells_row (b : Nat) (t : TypeId) : ∀ (vs : List Value) (o : Nat) (w : World) (cur : Array Value), w.heap[b]? = some (.cells cur t (0, 0)) →
    ∃ cur', (w.setCells b o vs).heap[b]? = some (.cells cur' t (0, 0)) ∧ cur'.size = cur.size
  | [], o, w, cur, h => ⟨cur, h, rfl⟩
  | v :: vs, o, w, cur, h => by
    have h1 := blk_set h o v
    obtain ⟨cur', h2, h3⟩ := setCells_row b t vs (o + 1) _ _ h1
    exact ⟨cur', h2, by rw [h3]; simp⟩
theorem setCells_grown (b : Nat) : ∀ (vs : List Value) (o : Nat) (w : World), w.grownBy (w.setCells b o vs) (some b)
  | [], o, w => World.grownBy.refl _ _
  | v :: vs, o, w => by
    refine World.grownBy.trans (b := w.setCell ⟨b, o, none⟩ v) ?_ (setCells_grown b vs (o + 1) _)
    exact ⟨rfl, rfl, rfl, by simp, fun k hk hn => Below.heap_setCell _ _ _ k (fun e => hn (by have e' : k = b := e; rw [e']))⟩
theorem clear_row {W : World} {base : Nat} {ok : Nat → Prop} {A : Option Addr} {c : Nat} {xs : List U90} (HO : Kd.R kU 90 W base ok (.slice A xs.length c) xs) (ty : TypeId) :
    ∃ w1, (Builtin.clear_ #[75] ty #[.slice A xs.length c]).run Try.prog W = .ok (.tuple #[]) w1 ∧ W.grownBy w1 (Value.slice A xs.length c).ownBlock ∧ Kd.R kU 90 w1 base ok (.slice A 0 c) [] := by
  have hz : ∀ w, (zeroValue 90).run Try.prog w = .ok (.agg #[.bool false, .int .u8 0, .int .i64 0]) w := fun w => by kernel_rfl
  have h0 := HO.1
  have ht := Kd.R_take HO (Nat.zero_le _)
  rw [List.take_zero] at ht
  obtain ⟨inner, hown⟩ := Kd.R_own HO
  by_cases hx : xs.length = 0
  · refine ⟨W, ?_, World.grownBy.refl _ _, ht⟩
    rw [hx]
    cases A <;> simp [Builtin.clear_, run_underlying Try.underlying75]
  · rcases hown.2 with ⟨e, _⟩ | ⟨g, cap, cur, e, hbase, hb, h1, h2, h3, h4⟩
    · injection e with _ e _
      omega
    · injection e with e1 _ e2
      subst e1
      have hk : kU.sz = 3 := rfl
      rw [hk] at h3
      obtain ⟨m, hm⟩ : ∃ m, xs.length = m + 1 := ⟨xs.length - 1, by omega⟩
      have hlen : ((Builtin.zeroCells (Value.agg #[.bool false, .int .u8 0, .int .i64 0]).cells xs.length).toList).length = xs.length * 3 := by
        simp [Builtin.zeroCells, Value.cells]
      have hst := run_storeCells_cells (P := Try.prog) g 0 (Builtin.zeroCells (Value.agg #[.bool false, .int .u8 0, .int .i64 0]).cells xs.length).toList 0 W
        (fun j hj => by
          rw [hlen] at hj
          simp only [Nat.zero_add, World.cell?, hb]
          have : j < cur.size := by omega
          simp [this])
        (fun j hj => by simp [World.frozen?, hb])
        (fun v hv => by
          simp [Builtin.zeroCells, Value.cells] at hv
          obtain ⟨i, _, rfl⟩ := hv
          have h3 : i % 3 < 3 := Nat.mod_lt _ (by omega)
          rcases (by omega : i % 3 = 0 ∨ i % 3 = 1 ∨ i % 3 = 2) with e | e | e <;> rw [e] <;> rfl)
      simp only [Nat.add_zero] at hst
      obtain ⟨cur', g1, g2⟩ := setCells_row g 90 (Builtin.zeroCells (Value.agg #[.bool false, .int .u8 0, .int .i64 0]).cells xs.length).toList 0 W cur hb
      refine ⟨W.setCells g 0 (Builtin.zeroCells (Value.agg #[.bool false, .int .u8 0, .int .i64 0]).cells xs.length).toList, ?_, setCells_grown g _ 0 W, ?_⟩
      · rw [hm] at hst ⊢
        simp [Builtin.clear_, run_underlying Try.underlying75, hz, hst]
      · refine ⟨fun k hk => h0 k hk, [], ⟨by simp, .inr ⟨g, cap, cur', by rw [e2]; rfl, hbase, g1, Nat.zero_le _, h2, by rw [g2, hk]; exact h3, by simp⟩⟩, Reps.none _ _⟩
section
variable {P : Program} {ops : Array Oper} {rest : List Oper} {o : Oper} {a : Act} {Q : Exit → Act → World → Prop}
theorem wpList_clear {W w1 : World} (hgd : o.guard = none) (s : Operand) (t : TypeId) (ho : o.op = .call { callee := .builtin .clear, args := #[s], argTypes := #[t] }) (v : Value) (hs : a.eval s = v)
    (hrun : (Builtin.clear_ #[t] o.type #[v]).run P W = .ok (.tuple #[]) w1) (h : wpList P ops Q rest (a.put o.dst (.tuple #[])) w1) : wpList P ops Q (o :: rest) a W := by
  refine wpList_plain hgd fun K hK => ?_
  unfold Oper.wp
  simp [execOp, ho, resolve, invoke, builtin, hs, hrun, Result.andThen]
  exact hK _ _ h
end
set_option maxRecDepth 100000 in
set_option maxHeartbeats 4000000 in
theorem sync_walk (own : Own) (w : World) (kd : Nat) (blk : Nat → Nat) (d : Dk) (h : Rep own w kd blk d) (hok : d.Ok) (B : Nat) (hbd : Bd d B) (hB : B ≤ 1000000000) (n : ByteArray) (hn : n.size ≤ big) :
    Calls Try.prog 50 #[ptr kd, .string n] w (Ends own w kd (d.sync n)) := by
  have HF := Lib.hid (find_walk own w kd blk d h n hn)
  have HH := Lib.hid h
  rcases find_cases d n with ⟨f, hf, hg, _⟩ | ⟨hf, _⟩ | ⟨hf, _⟩ | ⟨hf, _⟩
  · have hfl : f < d.files.length := hok.lt (n, f) ((mem_aget hok.sn n f).2 hg)
    have h1 : d.strokes ≤ 2305843009213693952 := by have := hbd.strokes; omega
    have h2 : d.count ≤ 2305843009213693952 := by have := hbd.count; omega
    have hsl := hbd.seen f hfl
    have hAP : d.sync n = (if d.tick.off then d.tick else d.tick.setFile f Dk.syncF, d.tick.told) := by unfold Dk.sync; rw [hf]
    rw [hf] at HF
    obtain ⟨toff, htoff⟩ : ∃ t, d.tick.off = t := ⟨_, rfl⟩
    rw [htoff] at hAP
    have HAP := Lib.hid hAP
    have hto : ∀ w, Calls Try.prog 58 #[.bool toff] w fun e w' => e = .returned (.int .i64 (d.tick.told : Int)) ∧ w' = w := fun w => by
      have h9 := told_is d.tick w
      rw [htoff] at h9
      exact h9
    have HTO := Lib.hid hto
    have HTOFF := Lib.hid htoff
    clear hf hAP hok hbd h hto htoff hg
    unfold ptr at HF ⊢
    go_enter Try.func50, Try.ntmps50
    go_wp2_with fail
    refine HF.out.mono ?_
    rintro e w1 ⟨rfl, q, hw1⟩
    have hb1 : Below w.heap.size w w1 := hw1 ▸ below_drewN' w q
    have HS := Lib.hid (stroke_walk own w1 kd blk d (HH.out.below hb1) h1 h2)
    rw [HTOFF.out] at HS
    have HB1 := Lib.hid hb1
    clear hw1 hb1
    unfold fptr ptr
    unfold ptr at HS
    go_wp2_with fail
    refine HS.out.mono ?_
    rintro e w2 ⟨rfl, hr2, hf2⟩
    have HR2 := Lib.hid hr2
    have HF2 := Lib.hid ((Fr.of_below HB1.out).trans hf2)
    have hfl2 : f < d.tick.files.length := hfl
    obtain ⟨vk2, vu2, vs2, b0, g1, g2, g3⟩ := hr2.rows hfl2
    obtain ⟨A3, c3, rfl⟩ := Kd.R_slice g3
    have hil : (ints (d.tick.file f).seen).length ≤ 1000000000 := by rw [ints_length]; show (d.file f).seen.length ≤ _; omega
    obtain ⟨ss, hss⟩ : ∃ ss, ints (d.tick.file f).seen = ss := ⟨_, rfl⟩
    rw [hss] at b0 hil g3
    have HCL := Lib.hid (fun w' (hb : Below w2.heap.size w2 w') => clone_walk ss A3 c3 w' (Kd.C_below (Kd.R_reads' g3).2.2 hb) (by omega))
    have cs := blk_cell b0 2
    simp at cs
    have HB0 := Lib.hid b0
    have HSS := Lib.hid hss
    clear hr2 hf2 b0 g1 g2 g3 hss
    cases toff
    · rw [if_neg (by simp)] at HAP
      go_wp2_with fail
      refine (HCL.out _ (Below.refl _ _)).mono ?_
      rintro e w3 ⟨v3, rfl, hr3, hb3⟩
      obtain ⟨Ak, ck, rfl⟩ := Kd.R_slice hr3
      have hb33 := blk_below HB0.out hb3
      have ck3 := blk_cell hb33 0
      have fk3 := blk_frozen hb33 0
      simp at ck3
      have hr23 := HR2.out.below hb3
      have HR23 := Lib.hid hr23
      have HB33 := Lib.hid hb33
      have HR3 := Lib.hid hr3
      have HB3 := Lib.hid hb3
      clear hr3 hb3 hb33 hr23 cs
      go_upto_region 7 with fail
      have hgr : w2.grownBy w3 vk2.ownBlock := ⟨HB3.out.os, HB3.out.tape, HB3.out.output, HB3.out.size, fun k hk _ => HB3.out.block k hk⟩
      have hup := HR2.out.kepts hfl2 HB0.out hgr (d.tick.file f).seen (v := .slice Ak ss.length ck) (by
        rw [HSS.out]
        exact Kd.R_lower (Kd.R_mono HR3.out (fun k hk => .inr hk)) (Nat.zero_le _))
      clear hgr
      obtain ⟨w4, hw4⟩ : ∃ w4, w3.setCell ⟨blk f, 0, none⟩ (.slice Ak ss.length ck) = w4 := ⟨_, rfl⟩
      rw [hw4] at hup ⊢
      have hfl4 : f < (d.tick.setFile f (fun x => { x with kept := (d.tick.file f).seen })).files.length := by rw [setFile_len]; exact hfl2
      obtain ⟨vk4, vu4, vs4, b4, g1, g2, g3⟩ := hup.1.rows hfl4
      obtain ⟨A5, c5, rfl⟩ := Kd.R_slice g2
      obtain ⟨us, hus⟩ : ∃ us, ((fun x => { x with kept := (d.tick.file f).seen } : Fl → Fl) (d.tick.file f)).units.map encU = us := ⟨_, rfl⟩
      rw [setFile_file _ _ _ hfl2, hus] at b4 g2
      obtain ⟨w5, hrun5, hg5, hr5⟩ := clear_row g2 0
      have hbn : some (blk f) ≠ (Value.slice A5 us.length c5).ownBlock := fun e => by
        have h1 := g2.1 _ e.symm
        have h2 := hup.1.fl f hfl4
        have h3 := h2.symm.trans h1
        cases h3
      have b5 := (hg5.block (blk f) (blk_lt b4) hbn).trans b4
      have cu4 := blk_cell b4 1
      have cu5 := blk_cell b5 1
      have fu5 := blk_frozen b5 1
      simp at cu4 cu5
      obtain ⟨i9, hi9, _, hsz9, _⟩ := info_parts info90
      have hcu := (Kd.R_reads' g2).2.1
      have hsl9 := cut_to (P := Try.prog) 75 90 .i64 Try.underlying75 hi9 A5 us.length c5 0 (by omega) (by omega) hcu
      rw [show (0 : Int).toNat = 0 from rfl] at hsl9
      have HUP := Lib.hid hup
      have HB4 := Lib.hid b4
      have HR5 := Lib.hid hr5
      have HG5 := Lib.hid hg5
      clear hw4 hup b4 g1 g2 g3 hr5 hg5 hbn b5 hcu hi9 hsz9 hus ck3 fk3
      go_wp2_with (first | (with_reducible refine wpList_clear rfl (.tmp 33) 75 rfl _ rfl hrun5 ?_) | (go_at_call 58; refine ((HTO.out _).mono ?_); rintro e w9 ⟨rfl, rfl⟩))
      go_ret
      have hs9 := HUP.out.1.units hfl4 HB4.out HG5.out [] (Kd.R_mono HR5.out (fun k hk => .inl hk))
      rw [setFile_setFile] at hs9
      rw [setFile_congr d.tick f _ Dk.syncF (fun _ => by simp [Dk.syncF])] at hs9
      rw [HAP.out]
      exact ⟨rfl, Left.mk hs9.1 (HF2.out.trans (HUP.out.2.trans hs9.2))⟩
    · rw [if_pos rfl] at HAP
      go_wp2_with (first | (go_at_call 58; refine ((HTO.out _).mono ?_); rintro e w9 ⟨rfl, rfl⟩))
      go_ret
      rw [HAP.out]
      exact ⟨rfl, Left.mk HR2.out HF2.out⟩
  all_goals
    have hrm : d.sync n = (d, (d.find n).2) := by unfold Dk.sync; rw [hf]
    rw [hrm, hf]
    rw [hf] at HF
    clear hf hrm h
    unfold ptr at HF ⊢
    go_enter Try.func50, Try.ntmps50
    go_wp2_with fail
    refine HF.out.mono ?_
    rintro e w1 ⟨rfl, m, hw1⟩
    have HB1 := Lib.hid (show Below w.heap.size w w1 from hw1 ▸ below_drewN' w m)
    clear hw1
    unfold fptr
    go_wp2_with fail
    go_ret
    exact ⟨rfl, Left.same HH.out HB1.out⟩
end Go.Proofs.Ytonecajkfbdnmaa.Dk

namespace Go.Proofs.Ytonecajkfbdnmaa.Dk
open Go.Lib Go.RowKit Go.ChangeMaps Go.Proofs.Ytonecajkfbdnmaa.Mp Go.Proofs.YtonecajkfbdnmaaW.PrintWords Go.Proofs.YtonecajkfbdnmaaW.PrintLast Go.Proofs.YtonecajkfbdnmaaW.PrintMore Go.Proofs.Ytonecajkfbdnmaa.PDiskRoom
set_option linter.unusedVariables false
set_option linter.unusedSimpArgs false

theorem str_at {w : World} {A : Option Addr} {xs : List ByteArray} (h : Kd.C Kd.string w A xs.length xs) (i : Nat) (hi : i < xs.length) : ∃ ad, A = some ad ∧ w.cell? (ad.add i) = some (.string xs[i]) := by
  obtain ⟨ad, c, e, _, hK, hc⟩ := Kd.C_get h (ByteArray.empty) (i : Int) (by omega) (by omega)
  have hc' : c = [Value.string (xs.getD (i : Int).toNat ByteArray.empty)] := hK
  subst hc'
  refine ⟨ad, e, ?_⟩
  have := hc 0 _ rfl
  rw [show Kd.string.sz = 1 from rfl, Int.toNat_natCast, Nat.mul_one, Nat.add_zero] at this
  rw [this, List.getD_eq_getElem?_getD, List.getElem?_eq_getElem hi]
  rfl
theorem R_own_lt {α : Type} {d : Kd α} {e : Nat} {w : World} {base : Nat} {ok : Nat → Prop} {v : Value} {xs : List α} (h : d.R e w base ok v xs) (k : Nat) (hk : v.ownBlock = some k) : ok k ∧ base ≤ k ∧ k < w.heap.size := by
  have := (Kd.R_bound h).1 k hk
  exact ⟨this.1, this.2.1, this.2.2.1⟩
def encF (x : ByteArray × By) : S28 := ⟨x.1, ints x.2⟩
theorem info28 : (Try.prog.info? 28).map (fun i => (i.zero, i.size, i.bytes)) = some (some (.agg #[.string ⟨#[]⟩, .slice none 0 0]), k28.sz, 40) := by kernel_rfl
theorem read_at {d : Dk} (hok : d.Ok) (hoff : d.off = false) (hfa : ∀ x ∈ d.names, fair x.1 = true) (x : ByteArray × Nat) (hx : x ∈ d.names) : d.read x.1 = (some (d.file x.2).seen, 0) := by
  obtain ⟨n, f⟩ := x
  unfold Dk.read Dk.find
  rw [hoff]
  simp [hfa _ hx, (mem_aget hok.sn n f).1 hx]
set_option maxRecDepth 100000 in
set_option maxHeartbeats 4000000 in
theorem seen_walk (own : Own) (w : World) (kd : Nat) (blk : Nat → Nat) (d : Dk) (h : Rep own w kd blk d) (hok : d.Ok) (hfa : ∀ x ∈ d.names, fair x.1 = true) (B : Nat) (hbd : Bd d B) (hB : B ≤ 1000000000) (hoff : d.off = false) :
    Calls Try.prog 25 #[ptr kd] w fun e w' => ∃ v, e = .returned v ∧ Kd.R k28 28 w' w.heap.size (fun k => w.heap.size ≤ k) v (d.image.map encF) ∧ Below w.heap.size w w' := by
  have hl64 := hok.few
  have HL := Lib.hid (list_on own w kd blk d h hok.sn (by omega) hoff)
  have HRD := Lib.hid (fun W (hb : Below w.heap.size w W) (x : ByteArray × Nat) (hx : x ∈ d.names) => by
    have h9 := read_walk own W kd blk d (h.below hb) hok.lt hok.sn (fun f hf => Nat.le_trans (hbd.seen f hf) hB) x.1 (by
      have h8 := hfa x hx
      unfold fair at h8
      simp at h8
      unfold big; omega)
    rw [read_at hok hoff hfa x hx] at h9
    exact h9)
  have hlen : d.names.length = d.image.length := by unfold Dk.image; rw [List.length_map]
  have himg : ∀ i (hi : i < d.names.length), d.image[i]? = some (d.names[i].1, (d.file d.names[i].2).seen) := fun i hi => by simp [Dk.image, hi]
  have HIMG := Lib.hid himg
  obtain ⟨N, hN⟩ : ∃ N, d.names.length = N := ⟨_, rfl⟩
  have HN := Lib.hid hN
  have hNb : N ≤ 64 := by omega
  have HLEN := Lib.hid hlen
  clear h hok hfa hbd hoff hlen himg hl64 hN
  unfold ptr at HL HRD ⊢
  go_enter Try.func25, Try.ntmps25
  go_wp2_with fail
  refine HL.out.mono ?_
  rintro e w1 ⟨v4, rfl, hr4, hb1⟩
  obtain ⟨A4, c4, rfl⟩ := Kd.R_slice hr4
  have hlen4 : (d.names.map (·.1)).length = N := by rw [List.length_map]; exact HN.out
  have HC4 := Lib.hid (Kd.R_reads' hr4).2.2
  rw [hlen4]
  have HB1 := Lib.hid hb1
  have HLEN4 := Lib.hid hlen4
  clear hr4 hb1 hlen4
  go_wp2_with fail
  go_loopw [3, 6] (fun v3 v6 wr => ∃ (i : Nat) (A : Option Addr) (c : Nat), i ≤ N ∧ v6 = .int .i64 i ∧ v3 = .slice A i c ∧ Kd.R k28 28 wr w1.heap.size (fun k => w1.heap.size ≤ k) (.slice A i c) ((d.image.map encF).take i) ∧ Below w1.heap.size w1 wr) (fun _ v6 _ => N - (RowKit.intOf v6).toNat)
  case atStart => exact ⟨0, none, 0, Nat.zero_le _, rfl, rfl, Kd.R_nil _ _ _ _ _, Below.refl _ _⟩
  case round =>
    obtain ⟨i, A, c, hi, rfl, rfl, hR, hb⟩ := hrel
    by_cases hlt : i < N
    · have hlt' : i < d.names.length := by rw [HN.out]; exact hlt
      obtain ⟨ad, hA4, hcell⟩ := str_at HC4.out i (by rw [HLEN4.out]; exact hlt)
      subst hA4
      rw [List.getElem_map] at hcell
      have hcr := pw_cell_below hb hcell
      have hbw : Below w.heap.size w wr := HB1.out.trans (hb.mono HB1.out.size)
      have HR := Lib.hid (HRD.out wr hbw d.names[i] (List.getElem_mem _))
      obtain ⟨nm, hnm⟩ : ∃ nm, d.names[i].1 = nm := ⟨_, rfl⟩
      have himg := HIMG.out i hlt'
      rw [hnm] at hcr HR himg
      have HRR := Lib.hid hR
      have HBB := Lib.hid hb
      obtain ⟨sb, hsb⟩ : ∃ sb, (d.file d.names[i].2).seen = sb := ⟨_, rfl⟩
      rw [hsb] at HR himg
      have HIM := Lib.hid himg
      have htk : ((d.image.map encF).take i).length = i := by rw [List.length_take, List.length_map, ← HLEN.out]; omega
      have HTK := Lib.hid htk
      have qi0 : (0 : Int) ≤ (i : Int) := by omega
      have qi1 : (i : Int) < (N : Int) := by omega
      clear hcell hR hb hbw hnm hsb himg htk hlt'
      simp only [Option.getD_some] at HR
      go_upto_region 7 with (first | (go_at_call 17; refine HR.out.mono ?_; rintro e w5 ⟨v7, rfl, hr7, hb5⟩; obtain ⟨A7, c7, rfl⟩ := Kd.R_slice hr7; have hcr5 := pw_cell_below hb5 hcr; have HR7 := Lib.hid hr7; have HB5 := Lib.hid hb5; clear hr7 hb5))
      have hR5 : Kd.R k28 28 w5 w1.heap.size (fun k => w1.heap.size ≤ k) (.slice A i c) ((d.image.map encF).take i) := Kd.R_below HRR.out HB5.out
      have HR5 := Lib.hid hR5
      clear hR5 hcr
      go_wp2_with (first | (at_builtin; refine Kd.R_append k28 (W := w5) (w0 := w5) w1.heap.size rfl (.tmp 29) (.tmp 36) 22 28 (.agg #[.string ⟨#[]⟩, .slice none 0 0]) 40 rfl Try.underlying22 info28 rfl (by decide) (by decide) (.slice A i c) ((d.image.map encF).take i) ⟨nm, ints sb⟩ [.string nm, .slice A7 (ints sb).length c7] (fun k => w1.heap.size ≤ k) (fun k => wr.heap.size ≤ k) rfl rfl (k28_mkM w5 _ _ ⟨nm, ints sb⟩ (Kd.R_lower HR7.out HBB.out.size)) (fun k hk => ⟨Nat.le_trans HBB.out.size hk, fun e => by have h9 := (R_own_lt HRR.out k e.symm).2.2; omega⟩) (fun k hk => Nat.le_trans HBB.out.size (Nat.le_trans HB5.out.size hk)) HR5.out (Below.refl _ _) (Nat.le_trans HBB.out.size HB5.out.size) (by rw [HTK.out]; omega) ?_; intro v9 w9 hr9 hb9 hg9 hat9; obtain ⟨A9, c9, rfl⟩ := Kd.R_slice hr9; have HR9 := Lib.hid hr9; have HG9 := Lib.hid hg9; clear hr9 hb9 hg9 hat9))
      go_roundw
      case rel =>
        have e9 : (d.image.map encF).take (i + 1) = (d.image.map encF).take i ++ [⟨nm, ints sb⟩] := by
          rw [List.take_add_one, List.getElem?_map, HIM.out]; rfl
        refine ⟨i + 1, A9, c9, by omega, by go_num, by rw [← HLEN.out, HN.out, Nat.min_eq_left hi], ?_, ?_⟩
        · rw [e9]
          have h9 := HR9.out
          rw [List.length_append, List.length_singleton, HTK.out] at h9
          exact h9
        · exact Below.grown (HBB.out.trans (HB5.out.mono HBB.out.size)) HG9.out (Nat.le_trans HBB.out.size HB5.out.size) (fun k hk => (R_own_lt HR5.out k hk).2.1)
      case measure => simp [RowKit.intOf]; omega
    · have hib : i = N := by omega
      have HIB := Lib.hid hib
      have HRR := Lib.hid hR
      have HBB := Lib.hid hb
      clear hR hb
      go_wp2_with fail
      go_ret
      refine ⟨_, rfl, ?_, HB1.out.trans (HBB.out.mono HB1.out.size)⟩
      have h9 := HRR.out
      rw [List.take_of_length_le (by rw [List.length_map, ← HLEN.out, HN.out]; omega)] at h9
      exact Kd.R_lower (Kd.R_mono h9 (fun k hk => Nat.le_trans HB1.out.size hk)) HB1.out.size
end Go.Proofs.Ytonecajkfbdnmaa.Dk

namespace Go.Proofs.Ytonecajkfbdnmaa.Dk
open Go.Lib Go.RowKit Go.ChangeMaps Go.Proofs.Ytonecajkfbdnmaa.Mp Go.Proofs.YtonecajkfbdnmaaW.PrintWords Go.Proofs.YtonecajkfbdnmaaW.PrintLast Go.Proofs.YtonecajkfbdnmaaW.PrintMore Go.Proofs.Ytonecajkfbdnmaa.PDiskRoom
set_option linter.unusedVariables false
set_option linter.unusedSimpArgs false

def fewB (o : S58) : Bool := decide (1 ≤ o.f0) && decide (o.f0 ≤ 6)
def fewM (o : S58) : S58 := { o with f5 := o.f5.take 4096 }
/-- What few keeps of the first i steps. -/
def fewI (l : List S58) (i : Nat) : List S58 := ((l.take i).filter fewB).map fewM
def fewOps (l : List S58) : List S58 := fewI l 200
/-- Steps of which the bytes came in. -/
abbrev kO (w0 : World) : Kd S58 := Kd.fixed k58 w0
theorem info58k : (Try.prog.info? 58).map (fun i => (i.zero, i.size, i.bytes)) = some (some (.agg #[.int .i64 0, .int .i64 0, .int .i64 0, .string ⟨#[]⟩, .string ⟨#[]⟩, .slice none 0 0, .int .i64 0, .int .i64 0, .int .i64 0, .slice none 0 0]), 10, 128) := by kernel_rfl
theorem info58 (w0 : World) : (Try.prog.info? 58).map (fun i => (i.zero, i.size, i.bytes)) = some (some (.agg #[.int .i64 0, .int .i64 0, .int .i64 0, .string ⟨#[]⟩, .string ⟨#[]⟩, .slice none 0 0, .int .i64 0, .int .i64 0, .int .i64 0, .slice none 0 0]), (kO w0).sz, 128) := info58k
theorem fewI_le (l : List S58) (i : Nat) : (fewI l i).length ≤ i := by
  unfold fewI
  rw [List.length_map]
  exact Nat.le_trans (List.length_filter_le _ _) (List.length_take_le _ _)
theorem fewI_succ (l : List S58) (i : Nat) (hi : i < l.length) : fewI l (i + 1) = fewI l i ++ (if fewB l[i] then [fewM l[i]] else []) := by
  unfold fewI
  rw [List.take_succ_eq_append_getElem hi, List.filter_append, List.map_append]
  congr 1
  by_cases h : fewB l[i] <;> simp [h]
theorem rd_T58_eq (l : List S58) (i : Nat) (hi : i < l.length) : rd_T58 l (i : Int) = l[i] := by
  unfold rd_T58
  rw [Int.toNat_natCast, List.getD_eq_getElem?_getD, List.getElem?_eq_getElem hi]; rfl
set_option maxRecDepth 100000 in
set_option maxHeartbeats 4000000 in
theorem few_walk (w0 w : World) (hb0 : Below w0.heap.size w0 w) (A : Option Addr) (c : Nat) (l : List S58) (hC : Kd.C k58 w0 A l.length l) (hl : l.length ≤ 1000000000000000) :
    Calls Try.prog 24 #[.slice A l.length c] w fun e w' => ∃ v, e = .returned v ∧ Kd.R (kO w0) 58 w' w.heap.size (fun k => w.heap.size ≤ k) v (fewOps l) ∧ Below w.heap.size w w' := by
  have HC := Lib.hid hC
  have HB0 := Lib.hid hb0
  clear hC hb0
  go_enter Try.func24, Try.ntmps24
  go_wp2_with fail
  go_loopw [3, 4] (fun v3 v4 wr => ∃ (i : Nat) (A1 : Option Addr) (c1 : Nat), i ≤ l.length ∧ i ≤ 200 ∧ v4 = .int .i64 i ∧ v3 = .slice A1 (fewI l i).length c1 ∧ Kd.R (kO w0) 58 wr w.heap.size (fun k => w.heap.size ≤ k) (.slice A1 (fewI l i).length c1) (fewI l i) ∧ Below w.heap.size w wr) (fun _ v4 _ => 200 - (RowKit.intOf v4).toNat)
  case atStart => exact ⟨0, none, 0, Nat.zero_le _, by omega, rfl, rfl, Kd.R_nil _ _ _ _ _, Below.refl _ _⟩
  case round =>
    obtain ⟨i, A1, c1, hi, hi2, rfl, rfl, hR, hb⟩ := hrel
    have hfl := fewI_le l i
    have HRR := Lib.hid hR
    have HBB := Lib.hid hb
    obtain ⟨ms, hms⟩ : ∃ ms, fewI l i = ms := ⟨_, rfl⟩
    rw [hms] at HRR hfl ⊢
    have HMS := Lib.hid hms
    by_cases hlt : i < l.length
    · by_cases h200 : i < 200
      · have hsucc := fewI_succ l i hlt
        rw [hms] at hsucc
        have qi1 : (i : Int) < (l.length : Int) := by omega
        obtain ⟨ad, A5, c5, A9, c9, hA, g0, g1, g2, g3, g4, g5, g6, g7, g8, g9, l5, C5, l9, C9⟩ := at_T58 HC.out (i : Int) (by omega) qi1
        subst hA
        rw [rd_T58_eq l i hlt] at g0 g1 g2 g3 g4 g5 g6 g7 g8 g9 l5 C5 l9 C9
        have hbw : Below w0.heap.size w0 wr := HB0.out.trans (hb.mono HB0.out.size)
        replace g0 := pw_cell_below hbw g0
        replace g1 := pw_cell_below hbw g1
        replace g2 := pw_cell_below hbw g2
        replace g3 := pw_cell_below hbw g3
        replace g4 := pw_cell_below hbw g4
        replace g5 := pw_cell_below hbw g5
        replace g6 := pw_cell_below hbw g6
        replace g7 := pw_cell_below hbw g7
        replace g8 := pw_cell_below hbw g8
        replace g9 := pw_cell_below hbw g9
        rw [Int.toNat_natCast] at g0 g1 g2 g3 g4 g5 g6 g7 g8 g9
        obtain ⟨o, ho⟩ : ∃ o, l[i] = o := ⟨_, rfl⟩
        rw [ho] at g0 g1 g2 g3 g4 g5 g6 g7 g8 g9 l5 C5 l9 C9 hsucc
        have HSUC := Lib.hid hsucc
        have HC5 := Lib.hid C5
        have HC9 := Lib.hid C9
        have HL9 := Lib.hid l9
        have qi0 : (0 : Int) ≤ (i : Int) := by omega
        have q200 : (i : Int) < 200 := by omega
        clear hR hb hms hsucc ho C5 C9 hbw l9
        have hkeep : ∀ oo, fewB oo = false → True := fun _ _ => trivial
        clear hkeep
        by_cases k1 : o.f0 < 1
        · have hB : fewB o = false := by unfold fewB; simp; omega
          rw [hB] at HSUC
          go_wp2_with fail
          go_roundw
          case rel => exact ⟨i + 1, A1, c1, by omega, by omega, by go_num, by rw [HSUC.out]; simp, by rw [HSUC.out]; simpa using Kd.R_below HRR.out (below_alloc (Below.refl _ _) _), below_alloc HBB.out _⟩
          case measure => simp [RowKit.intOf]; omega
        · by_cases k6 : 6 < o.f0
          · have hB : fewB o = false := by unfold fewB; simp; omega
            rw [hB] at HSUC
            go_wp2_with fail
            go_roundw
            case rel => exact ⟨i + 1, A1, c1, by omega, by omega, by go_num, by rw [HSUC.out]; simp, by rw [HSUC.out]; simpa using Kd.R_below HRR.out (below_alloc (Below.refl _ _) _), below_alloc HBB.out _⟩
            case measure => simp [RowKit.intOf]; omega
          · have hB : fewB o = true := by unfold fewB; simp; omega
            rw [hB] at HSUC
            by_cases k4 : o.f5.length ≤ 4096
            · have hM : fewM o = o := by unfold fewM; rw [List.take_of_length_le k4]
              rw [hM] at HSUC
              go_upto_region 9 with (fail)
              obtain ⟨wb, hwb⟩ : ∃ wb, wr.alloc (.cells #[.int .i64 o.f0, .int .i64 o.f1, .int .i64 o.f2, .string o.f3, .string o.f4, .slice A5 o.f5.length c5, .int .i64 o.f6.f0, .int .i64 o.f6.f1, .int .i64 o.f6.f2, .slice A9 o.f7.length c9] 58) = wb := ⟨_, rfl⟩
              obtain ⟨kb, hkb⟩ : ∃ kb, wr.heap.size = kb := ⟨_, rfl⟩
              have hbb : Below w.heap.size w wb := hwb ▸ below_alloc HBB.out _
              have hRb : Kd.R (kO w0) 58 wb w.heap.size (fun k => w.heap.size ≤ k) (.slice A1 ms.length c1) ms := hwb ▸ Kd.R_below HRR.out (below_alloc (Below.refl _ _) _)
              have hnb : wb.heap[kb]? = some (.cells #[.int .i64 o.f0, .int .i64 o.f1, .int .i64 o.f2, .string o.f3, .string o.f4, .slice A5 o.f5.length c5, .int .i64 o.f6.f0, .int .i64 o.f6.f1, .int .i64 o.f6.f2, .slice A9 o.f7.length c9] 58 (0, 0)) := by rw [← hwb, ← hkb]; exact blk_new wr _
              rw [hwb, hkb]
              have n0 := blk_cell hnb 0
              have n1 := blk_cell hnb 1
              have n2 := blk_cell hnb 2
              have n3 := blk_cell hnb 3
              have n4 := blk_cell hnb 4
              have n5 := blk_cell hnb 5
              have n6 := blk_cell hnb 6
              have n7 := blk_cell hnb 7
              have n8 := blk_cell hnb 8
              have n9 := blk_cell hnb 9
              simp at n0 n1 n2 n3 n4 n5 n6 n7 n8 n9
              have HRB := Lib.hid hRb
              have HBBB := Lib.hid hbb
              clear hwb hkb hbb hRb hnb
              go_wp2_with (first | (at_builtin; refine Kd.R_append (kO w0) (W := wb) (w0 := w) w.heap.size rfl (.tmp 36) (.tmp 38) 48 58 _ 128 rfl Try.underlying48 (info58 w0) rfl (show 0 < 10 by decide) (by decide) (.slice A1 ms.length c1) ms o [.int .i64 o.f0, .int .i64 o.f1, .int .i64 o.f2, .string o.f3, .string o.f4, .slice A5 o.f5.length c5, .int .i64 o.f6.f0, .int .i64 o.f6.f1, .int .i64 o.f6.f2, .slice A9 o.f7.length c9] (fun k => w.heap.size ≤ k) (fun _ => False) rfl rfl (k58_mk w0 o l5 HC5.out HL9.out HC9.out) (fun _ hk => hk.elim) (fun k hk => Nat.le_trans HBBB.out.size hk) HRB.out HBBB.out HBBB.out.size (by omega) ?_; intro v9 w9 hr9 hb9 hg9 hat9; obtain ⟨A2, c2, rfl⟩ := Kd.R_slice hr9; have HR9 := Lib.hid hr9; have HB9 := Lib.hid hb9; clear hr9 hb9 hg9 hat9))
              go_roundw
              case rel => exact ⟨i + 1, A2, c2, by omega, by omega, by go_num, by rw [HSUC.out]; simp, by rw [HSUC.out]; exact HR9.out, HB9.out⟩
              case measure => simp [RowKit.intOf]; omega
            · have h4096 : (o.f5.take 4096).length = 4096 := by rw [List.length_take]; omega
              obtain ⟨i5, hi5, hi5z, hi5s, _⟩ := info_parts info5
              have hsl9 := cut_to (P := Try.prog) 26 5 .i64 Try.underlying26 hi5 A5 o.f5.length c5 4096 (by omega) (by omega) l5
              rw [show (4096 : Int).toNat = 4096 from rfl] at hsl9
              have hmk := k58_mk w0 (fewM o) (A5 := A5) (c5 := c5) (A9 := A9) (c9 := c9) (by show (o.f5.take 4096).length ≤ c5; omega) (Kd.C_take HC5.out (by omega)) HL9.out HC9.out
              rw [show (fewM o).f5.length = 4096 from h4096] at hmk
              have HMK := Lib.hid hmk
              have k4b : (4096 : Int) < (o.f5.length : Int) := by omega
              clear hmk h4096 hi5 hi5z hi5s
              go_upto_region 9 with (fail)
              obtain ⟨wb, hwb⟩ : ∃ wb, wr.alloc (.cells #[.int .i64 o.f0, .int .i64 o.f1, .int .i64 o.f2, .string o.f3, .string o.f4, .slice A5 4096 c5, .int .i64 o.f6.f0, .int .i64 o.f6.f1, .int .i64 o.f6.f2, .slice A9 o.f7.length c9] 58) = wb := ⟨_, rfl⟩
              obtain ⟨kb, hkb⟩ : ∃ kb, wr.heap.size = kb := ⟨_, rfl⟩
              have hbb : Below w.heap.size w wb := hwb ▸ below_alloc HBB.out _
              have hRb : Kd.R (kO w0) 58 wb w.heap.size (fun k => w.heap.size ≤ k) (.slice A1 ms.length c1) ms := hwb ▸ Kd.R_below HRR.out (below_alloc (Below.refl _ _) _)
              have hnb : wb.heap[kb]? = some (.cells #[.int .i64 o.f0, .int .i64 o.f1, .int .i64 o.f2, .string o.f3, .string o.f4, .slice A5 4096 c5, .int .i64 o.f6.f0, .int .i64 o.f6.f1, .int .i64 o.f6.f2, .slice A9 o.f7.length c9] 58 (0, 0)) := by rw [← hwb, ← hkb]; exact blk_new wr _
              rw [hwb, hkb]
              have n0 := blk_cell hnb 0
              have n1 := blk_cell hnb 1
              have n2 := blk_cell hnb 2
              have n3 := blk_cell hnb 3
              have n4 := blk_cell hnb 4
              have n5 := blk_cell hnb 5
              have n6 := blk_cell hnb 6
              have n7 := blk_cell hnb 7
              have n8 := blk_cell hnb 8
              have n9 := blk_cell hnb 9
              simp at n0 n1 n2 n3 n4 n5 n6 n7 n8 n9
              have HRB := Lib.hid hRb
              have HBBB := Lib.hid hbb
              clear hwb hkb hbb hRb hnb
              go_wp2_with (first | (at_builtin; refine Kd.R_append (kO w0) (W := wb) (w0 := w) w.heap.size rfl (.tmp 36) (.tmp 38) 48 58 _ 128 rfl Try.underlying48 (info58 w0) rfl (show 0 < 10 by decide) (by decide) (.slice A1 ms.length c1) ms (fewM o) [.int .i64 o.f0, .int .i64 o.f1, .int .i64 o.f2, .string o.f3, .string o.f4, .slice A5 4096 c5, .int .i64 o.f6.f0, .int .i64 o.f6.f1, .int .i64 o.f6.f2, .slice A9 o.f7.length c9] (fun k => w.heap.size ≤ k) (fun _ => False) rfl rfl HMK.out (fun _ hk => hk.elim) (fun k hk => Nat.le_trans HBBB.out.size hk) HRB.out HBBB.out HBBB.out.size (by omega) ?_; intro v9 w9 hr9 hb9 hg9 hat9; obtain ⟨A2, c2, rfl⟩ := Kd.R_slice hr9; have HR9 := Lib.hid hr9; have HB9 := Lib.hid hb9; clear hr9 hb9 hg9 hat9))
              go_roundw
              case rel => exact ⟨i + 1, A2, c2, by omega, by omega, by go_num, by rw [HSUC.out]; simp, by rw [HSUC.out]; exact HR9.out, HB9.out⟩
              case measure => simp [RowKit.intOf]; omega
      · have hi3 : i = 200 := by omega
        have hend : fewOps l = ms := by unfold fewOps; rw [← hi3]; exact hms
        have HE := Lib.hid hend
        have q1 : (i : Int) < (l.length : Int) := by omega
        have q2 : ¬ (i : Int) < 200 := by omega
        clear hend hR hb hms
        go_wp2_with fail
        go_ret
        exact ⟨_, rfl, by rw [HE.out]; exact HRR.out, HBB.out⟩
    · have hil : i = l.length := by omega
      have hend : fewOps l = ms := by
        rw [← hms]; unfold fewOps fewI
        rw [List.take_of_length_le (show l.length ≤ 200 by omega), List.take_of_length_le (show l.length ≤ i by omega)]
      have HE := Lib.hid hend
      have q1 : ¬ (i : Int) < (l.length : Int) := by omega
      clear hend hR hb hms
      go_wp2_with fail
      go_ret
      exact ⟨_, rfl, by rw [HE.out]; exact HRR.out, HBB.out⟩
end Go.Proofs.Ytonecajkfbdnmaa.Dk

namespace Go.Proofs.Ytonecajkfbdnmaa.Dk
open Go.Lib Go.RowKit Go.ChangeMaps Go.Proofs.Ytonecajkfbdnmaa.Mp Go.Proofs.YtonecajkfbdnmaaW.PrintWords Go.Proofs.YtonecajkfbdnmaaW.PrintLast Go.Proofs.YtonecajkfbdnmaaW.PrintMore Go.Proofs.Ytonecajkfbdnmaa.PDiskRoom
set_option linter.unusedVariables false
set_option linter.unusedSimpArgs false

/-- A step that changes a disk. -/
structure POp where
  kind : Int
  n : Int
  name : ByteArray
  to_ : ByteArray
  b : By
def Dk.playN (d : Dk) (o : POp) : Nat → Dk × Nat
  | 1 => d.append o.name o.b
  | 2 => d.cut o.name o.n
  | 3 => d.sync o.name
  | 4 => d.syncNames
  | 5 => d.rename o.name o.to_
  | 6 => d.remove o.name
  | _ => (d, 0)
def Dk.play (d : Dk) (o : POp) : Dk × Nat := if o.kind < 0 then (d, 0) else d.playN o o.kind.toNat
def toBy (l : List Int) : By := l.map (fun z => UInt8.ofNat z.toNat)
def opOf (o : S58) : POp := ⟨o.f0, o.f2, o.f3, o.f4, toBy o.f5⟩
/-- What a step's values are within. -/
structure OpOk (o : S58) : Prop where
  bytes : ints (toBy o.f5) = o.f5
  len : o.f5.length ≤ 1000000000
  name : o.f3.size ≤ big
  to_ : o.f4.size ≤ big
  n : -9223372036854775808 ≤ o.f2 ∧ o.f2 ≤ 9223372036854775807
def opV (o : S58) (A5 : Option Addr) (c5 : Nat) (A9 : Option Addr) (c9 : Nat) : Array Value := #[.int .i64 o.f0, .int .i64 o.f1, .int .i64 o.f2, .string o.f3, .string o.f4, .slice A5 o.f5.length c5, .int .i64 o.f6.f0, .int .i64 o.f6.f1, .int .i64 o.f6.f2, .slice A9 o.f7.length c9]
set_option maxRecDepth 100000 in
set_option maxHeartbeats 4000000 in
theorem play_op (own : Own) (w : World) (kd : Nat) (blk : Nat → Nat) (d : Dk) (h : Rep own w kd blk d) (hok : d.Ok) (B : Nat) (hbd : Bd d B) (hB : B ≤ 1000000000) (o : S58) (ho : OpOk o) (A5 : Option Addr) (c5 : Nat) (A9 : Option Addr) (c9 : Nat)
    (hA : Out own w A5 o.f5) (hk : 1 ≤ o.f0 ∧ o.f0 ≤ 6) : Calls Try.prog 26 #[ptr kd, .agg (opV o A5 c5 A9 c9)] w (Ends own w kd (d.play (opOf o))) := by
  have hH : ∃ H, w.heap.size = H := ⟨_, rfl⟩
  obtain ⟨H, hH⟩ := hH
  have hblen : (toBy o.f5).length = o.f5.length := by simp [toBy]
  unfold opV ptr
  go_enter Try.func26, Try.ntmps26
  go_upto_region 1 with (fail)
  obtain ⟨wb, hwb⟩ : ∃ wb, w.alloc (.cells #[.int .i64 o.f0, .int .i64 o.f1, .int .i64 o.f2, .string o.f3, .string o.f4, .slice A5 o.f5.length c5, .int .i64 o.f6.f0, .int .i64 o.f6.f1, .int .i64 o.f6.f2, .slice A9 o.f7.length c9] 58) = wb := ⟨_, rfl⟩
  have hbb : Below w.heap.size w wb := hwb ▸ below_alloc (Below.refl _ _) _
  have hnb : wb.heap[H]? = some (.cells #[.int .i64 o.f0, .int .i64 o.f1, .int .i64 o.f2, .string o.f3, .string o.f4, .slice A5 o.f5.length c5, .int .i64 o.f6.f0, .int .i64 o.f6.f1, .int .i64 o.f6.f2, .slice A9 o.f7.length c9] 58 (0, 0)) := by rw [← hwb, ← hH]; exact blk_new w _
  rw [hwb]
  have n0 := blk_cell hnb 0
  have n2 := blk_cell hnb 2
  have n3 := blk_cell hnb 3
  have n4 := blk_cell hnb 4
  have n5 := blk_cell hnb 5
  simp at n0 n2 n3 n4 n5
  have hrb := h.below hbb
  have hab := hA.keep (Fr.of_below hbb)
  rw [← ho.bytes] at hab
  have hpl : ∀ k : Nat, o.f0 = (k : Int) → d.play (opOf o) = d.playN (opOf o) k := fun k e => by
    unfold Dk.play
    rw [show (opOf o).kind = o.f0 from rfl, e, if_neg (by omega), Int.toNat_natCast]
  have C1 := Lib.hid (append_walk own wb kd blk d hrb hok B hbd hB o.f3 ho.name A5 c5 (toBy o.f5) hab (by rw [hblen]; exact ho.len))
  rw [hblen] at C1
  have C2 := Lib.hid (cut_walk own wb kd blk d hrb hok B hbd hB o.f3 ho.name o.f2)
  have C3 := Lib.hid (sync_walk own wb kd blk d hrb hok B hbd hB o.f3 ho.name)
  have e1 : d.strokes ≤ 2305843009213693952 := by have := hbd.strokes; omega
  have e2 : d.count ≤ 2305843009213693952 := by have := hbd.count; omega
  have e3 : d.changes.length ≤ 1000000000 := by have := hbd.changes; omega
  have C4 := Lib.hid (syncNames_walk own wb kd blk d hrb hok.ss hok.chs e1 e2 e3)
  have C5 := Lib.hid (rename_walk own wb kd blk d hrb hok.sn e1 e2 e3 o.f3 o.f4 ho.name ho.to_)
  have C6 := Lib.hid (remove_walk own wb kd blk d hrb hok.sn e1 e2 e3 o.f3 ho.name)
  have HPL := Lib.hid hpl
  have HBB := Lib.hid hbb
  have HN := Lib.hid (fun r w => num_walk r w)
  obtain ⟨hk1, hk6⟩ := hk
  clear hwb hbb hnb hrb hab hpl h hok hbd hA e1 e2 e3 hH hblen
  unfold ptr at C1 C2 C3 C4 C5 C6
  obtain ⟨x, hx⟩ : ∃ x : Nat, o.f0 = (x : Int) := ⟨o.f0.toNat, by omega⟩
  rcases (by omega : o.f0 = 1 ∨ o.f0 = 2 ∨ o.f0 = 3 ∨ o.f0 = 4 ∨ o.f0 = 5 ∨ o.f0 = 6) with hk | hk | hk | hk | hk | hk
  · have HP := Lib.hid (HPL.out 1 hk)
    rw [hk] at n0
    clear hk hk1 hk6 hx
    go_wp2_with fail
    refine C1.out.mono ?_
    rintro e w5 ⟨rfl, hl5⟩
    have HL5 := Lib.hid hl5
    clear hl5
    go_wp2_with fail
    refine (HN.out _ _).mono ?_
    rintro e w6 ⟨rfl, rfl⟩
    go_wp2_with fail
    go_ret
    rw [HP.out]
    obtain ⟨own', blk', hr, hf⟩ := HL5.out
    exact ⟨rfl, own', blk', hr, (Fr.of_below HBB.out).trans hf⟩
  · have HP := Lib.hid (HPL.out 2 hk)
    rw [hk] at n0
    clear hk hk1 hk6 hx
    go_wp2_with fail
    refine C2.out.mono ?_
    rintro e w5 ⟨rfl, hl5⟩
    have HL5 := Lib.hid hl5
    clear hl5
    go_wp2_with fail
    refine (HN.out _ _).mono ?_
    rintro e w6 ⟨rfl, rfl⟩
    go_wp2_with fail
    go_ret
    rw [HP.out]
    obtain ⟨own', blk', hr, hf⟩ := HL5.out
    exact ⟨rfl, own', blk', hr, (Fr.of_below HBB.out).trans hf⟩
  · have HP := Lib.hid (HPL.out 3 hk)
    rw [hk] at n0
    clear hk hk1 hk6 hx
    go_wp2_with fail
    refine C3.out.mono ?_
    rintro e w5 ⟨rfl, hl5⟩
    have HL5 := Lib.hid hl5
    clear hl5
    go_wp2_with fail
    refine (HN.out _ _).mono ?_
    rintro e w6 ⟨rfl, rfl⟩
    go_wp2_with fail
    go_ret
    rw [HP.out]
    obtain ⟨own', blk', hr, hf⟩ := HL5.out
    exact ⟨rfl, own', blk', hr, (Fr.of_below HBB.out).trans hf⟩
  · have HP := Lib.hid (HPL.out 4 hk)
    rw [hk] at n0
    clear hk hk1 hk6 hx
    go_wp2_with fail
    refine C4.out.mono ?_
    rintro e w5 ⟨rfl, hl5⟩
    have HL5 := Lib.hid hl5
    clear hl5
    go_wp2_with fail
    refine (HN.out _ _).mono ?_
    rintro e w6 ⟨rfl, rfl⟩
    go_wp2_with fail
    go_ret
    rw [HP.out]
    obtain ⟨own', blk', hr, hf⟩ := HL5.out
    exact ⟨rfl, own', blk', hr, (Fr.of_below HBB.out).trans hf⟩
  · have HP := Lib.hid (HPL.out 5 hk)
    rw [hk] at n0
    clear hk hk1 hk6 hx
    go_wp2_with fail
    refine C5.out.mono ?_
    rintro e w5 ⟨rfl, hl5⟩
    have HL5 := Lib.hid hl5
    clear hl5
    go_wp2_with fail
    refine (HN.out _ _).mono ?_
    rintro e w6 ⟨rfl, rfl⟩
    go_wp2_with fail
    go_ret
    rw [HP.out]
    obtain ⟨own', blk', hr, hf⟩ := HL5.out
    exact ⟨rfl, own', blk', hr, (Fr.of_below HBB.out).trans hf⟩
  · have HP := Lib.hid (HPL.out 6 hk)
    rw [hk] at n0
    clear hk hk1 hk6 hx
    go_wp2_with fail
    refine C6.out.mono ?_
    rintro e w5 ⟨rfl, hl5⟩
    have HL5 := Lib.hid hl5
    clear hl5
    go_wp2_with fail
    refine (HN.out _ _).mono ?_
    rintro e w6 ⟨rfl, rfl⟩
    go_wp2_with fail
    go_ret
    rw [HP.out]
    obtain ⟨own', blk', hr, hf⟩ := HL5.out
    exact ⟨rfl, own', blk', hr, (Fr.of_below HBB.out).trans hf⟩
end Go.Proofs.Ytonecajkfbdnmaa.Dk
