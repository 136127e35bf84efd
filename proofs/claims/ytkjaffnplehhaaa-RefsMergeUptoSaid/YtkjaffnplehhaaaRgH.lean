/- The walk of slices.CompactFunc at stamps. -/
import Derived.Test.YtkjaffnplehhaaaRgG
namespace Go.Proofs.Ytkjaffnplehhaaa.Rg
open Go Go.Lib Go.RowKit Go.ChangeMaps Go.Proofs.YtkjaffnplehhaaaW.PrintWords Go.Proofs.YtkjaffnplehhaaaW.PrintLast Go.Proofs.YtkjaffnplehhaaaW.PrintMore Go.Proofs.Ytkjaffnplehhaaa.PRefsMerge Go.Sort
set_option linter.unusedVariables false
set_option linter.unusedSimpArgs false
theorem below_grow (w : World) (q : Nat) (os : Array Obj) : Below w.heap.size w (grow (w.drewN q) os) :=
  ⟨rfl, rfl, rfl, by simp [grow], fun k hk => by
    show (w.heap ++ os)[k]? = w.heap[k]?
    rw [Array.getElem?_append_left hk]⟩
theorem eq_clo_b (x y : Stp) (hx : x.Ok) (hy : y.Ok) (w : World) :
    Calls Try.prog 15 #[vSt x, vSt y] w fun e w' => e = .returned (.bool (decide (x.n = y.n))) ∧ Below w.heap.size w w' :=
  (eq_clo x y hx hy w).mono (fun e w' ⟨h1, q, os, h2⟩ => ⟨h1, h2 ▸ below_grow w q os⟩)
theorem _root_.Go.RowKit.Below.mono' {B g : Nat} {w w' : World} (h : Below w.heap.size w w') (hg : g < w.heap.size) (hB : B ≤ g) : Below B w w' := h.mono (by omega)
abbrev sl (g n c : Nat) : Value := .slice (some ⟨g, 0, none⟩) n c
theorem cut_low (g N c k n1 c1 : Nat) (hk : k ≤ N) (hc : k < c) (hn : n1 = N - k) (hc1 : c1 = c - k) : ∀ W : World, (Instr.slice 22 (.slice (some ⟨g, 0, none⟩) N c) (some (.int .i64 (k : Int))) none none).run Try.prog W = .ok (.slice (some ⟨g, k * 34, none⟩) n1 c1) W := by
  intro W
  have hel : Try.prog.elem 22 = 32 := by simp [Program.elem, Try.underlying22]
  have hu : Try.prog.underlying 22 = some (.slice (Try.prog.elem 22)) := by rw [hel]; exact Try.underlying22
  subst hn hc1
  rw [run_slice_l W 22 (some ⟨g, 0, none⟩) N c hu .i64 (k : Int) (by omega) (by omega), hel, Try.sizeOf32]
  simp only [Result.andThen_ok, sliced, Int.toNat_natCast]
  have h1 : ¬ (c = k) := by omega
  simp [h1, Addr.add_lit]
theorem wpList_st {ops : Array Oper} {rest : List Oper} {o : Oper} {a : Act} {Q : Exit → Act → World → Prop} {W : World} (hgd : o.guard = none) (x y : Operand) (ho : o.op = .store 32 x y) (g off : Nat) (hx : a.eval x = .pointer (some ⟨g, off, none⟩)) (v : Stp) (hv : v.Ok) (hy : a.eval y = vSt v)
    (ht : W.there g off 34) (h : wpList Try.prog ops Q rest (a.put o.dst undef) (W.setCells g off (encSt v))) : wpList Try.prog ops Q (o :: rest) a W :=
  wpList_store_mid hgd 32 x y ho g off (encSt v).toArray hx hy (by rw [List.size_toArray, encSt_len hv]; exact ht) (by rw [List.size_toArray, encSt_len hv]; exact info32s) (all_oneCell_toArray (encSt_one v)) h
set_option maxRecDepth 100000 in
set_option maxHeartbeats 4000000 in
theorem compact_walk (D : List Stp) (g cap : Nat) (w0 : World) (B : Nat) (w : World) (hok : ∀ x ∈ D, x.Ok) (hR : RowAt w g D) (hg : g < w.heap.size) (hb : Below B w0 w) (hB : B ≤ g) (hN : D.length ≤ cap) (hl : D.length ≤ 4000000000) :
    Calls Try.prog 14 #[sl g D.length cap, .func (.func 15) #[] #[]] w fun e w' => e = .returned (sl g (firsts none D).length cap) ∧ RowAt w' g (firsts none D) ∧ Below B w0 w' ∧ g < w'.heap.size := by
  have HR := Lib.hid hR
  have HOK := Lib.hid hok
  have HB := Lib.hid hb
  have HG := Lib.hid hg
  obtain ⟨N, hNe⟩ : ∃ N, D.length = N := ⟨_, rfl⟩
  have HN := Lib.hid hNe
  rw [hNe] at hN hl ⊢
  clear hR hok hb hg hNe
  have HCAP := Lib.hid hN
  unfold sl
  by_cases h2 : N < 2
  · have HF := Lib.hid (show firsts none D = D from by
      match D, HN.out with
      | [], _ => rfl
      | [x], _ => rfl
      | x :: y :: r, h => simp at h; omega)
    have h2' : (N : Int) < 2 := by omega
    go_enter Try.func14, Try.ntmps14
    go_wp2_with fail
    go_ret
    rw [HF.out, HN.out]
    exact ⟨rfl, HR.out, HB.out, HG.out⟩
  · have h2' : ¬ (N : Int) < 2 := by omega
    go_enter Try.func14, Try.ntmps14
    go_wp2_with fail
    go_loopw [5] (fun v5 wr => ∃ (k : Nat), 1 ≤ k ∧ k ≤ N ∧ v5 = .int .i64 k ∧ RowAt wr g D ∧ Below B w0 wr ∧ g < wr.heap.size ∧ firsts none (D.take k) = D.take k) (fun v5 _ => N - (RowKit.intOf v5).toNat)
    case atStart => exact ⟨1, Nat.le_refl _, by omega, rfl, HR.out, HB.out, HG.out, firsts_one D (by rw [HN.out]; omega)⟩
    case round =>
      obtain ⟨k, hk1, hk, rfl, hr, hb, hg, hf⟩ := hrel
      have HRr := Lib.hid hr
      have HBr := Lib.hid hb
      have HGr := Lib.hid hg
      have HF := Lib.hid hf
      clear hr hb hg hf HR HB HG
      by_cases hlt : k < N
      · obtain ⟨j, hj⟩ : ∃ j, k = j + 1 := ⟨k - 1, by omega⟩
        have hkl : k < D.length := by rw [HN.out]; exact hlt
        have hjl : j < D.length := by omega
        have HST := Lib.hid (firsts_step D k (by omega) hkl)
        have hxs := HRr.out.st HOK.out k hkl
        have hys := HRr.out.st HOK.out j hjl
        have hjj : D[k - 1]'(by omega) = D[j] := by congr 1; omega
        rw [hjj] at HST
        obtain ⟨x, hx⟩ : ∃ x, D[k] = x := ⟨_, rfl⟩
        obtain ⟨y, hy⟩ : ∃ y, D[j] = y := ⟨_, rfl⟩
        rw [hx] at hxs HST
        rw [hy] at hys HST
        have HTK := Lib.hid (show D.take (k + 1) = D.take k ++ [x] by rw [List.take_succ_eq_append_getElem hkl, hx])
        have hw : IntKind.i64.wrap ((k : Int) - 1) = (j : Int) := by rw [IntWalk.i64_in _ (by omega)]; omega
        have qj0 : (0 : Int) ≤ (j : Int) := by omega
        have qj1 : (j : Int) < (N : Int) := by omega
        have qk0 : (0 : Int) ≤ (k : Int) := by omega
        have qk1 : (k : Int) < (N : Int) := by omega
        have HL1 := Lib.hid (fun w' (h : Below wr.heap.size wr w') => (hxs.below h).load)
        have HL2 := Lib.hid (fun w' (h : Below wr.heap.size wr w') => (hys.below h).load)
        have HEQ := Lib.hid (fun W : World => eq_clo_b x y hxs.1 hys.1 W)
        have HJ := Lib.hid hj
        clear hxs hys hjj hx hy hj hkl hjl
        go_upto_region 6 with (fail)
        refine wp_region_cls (by kernel_rfl) (by kernel_rfl) ?_
        repeat (first | go_big_quiet_skip | (go_big_quiet_want; refine quiet_ld 32 (.tmp 21) rfl ⟨g, k * 34, none⟩ rfl (vSt x) HL1.out ?_; (try simp only [Act.put, List.setIfInBounds_toArray, List.set_cons_zero, List.set_cons_succ]); go_big_quiet_on) | (go_big_quiet_want; refine quiet_ld 32 (.tmp 26) rfl ⟨g, j * 34, none⟩ rfl (vSt y) HL2.out ?_; (try simp only [Act.put, List.setIfInBounds_toArray, List.set_cons_zero, List.set_cons_succ]); go_big_quiet_on) | go_big_quiet_step (refine cls_call (HEQ.out _)))
        refine wpQuiet_nil ?_
        rintro wy ⟨q, rfl⟩
        have HRy := Lib.hid (HRr.out.below HGr.out q.below)
        have HBy := Lib.hid (HBr.out.trans (q.below.mono' HGr.out hB))
        have HGy := Lib.hid (Nat.lt_of_lt_of_le HGr.out q.below.size)
        obtain ⟨wz, hwz⟩ : ∃ wz, q.at = wz := ⟨_, rfl⟩
        rw [hwz] at HRy HBy HGy ⊢
        clear hwz q HL1 HL2 HEQ HRr HBr HGr
        by_cases hxy : x.n = y.n
        · have hd : decide (x.n = y.n) = true := by simpa using hxy
          have HF2 := Lib.hid (show firsts none (D.take (k + 1)) = D.take k by rw [HST.out, HF.out, if_pos hxy, List.append_nil])
          rw [hd]
          clear hd HST HTK HF hw qj0 qj1 hxy
          obtain ⟨n1, hn1⟩ : ∃ n1, n1 = N - k := ⟨_, rfl⟩
          obtain ⟨c1, hc1⟩ : ∃ c1, c1 = cap - k := ⟨_, rfl⟩
          have hsl := cut_low g N cap k n1 c1 hk (by omega) hn1 hc1
          have hn1' : k + n1 = N := by omega
          have HN1 := Lib.hid hn1'
          have HC1 := Lib.hid hc1
          clear hn1 hc1 hn1'
          go_wp2_with fail
          clear hsl
          go_loopw [5, 7] (fun v5 v7 wr => ∃ (m q : Nat) (R : List Stp), 1 ≤ q ∧ q ≤ n1 ∧ m + 1 ≤ k + q ∧ v5 = .int .i64 m ∧ v7 = .int .i64 q ∧ R.length = N ∧ RowAt wr g R ∧ (∀ x ∈ R, x.Ok) ∧ R.take m = firsts none (D.take (k + q)) ∧ (∀ t, k + q ≤ t + 1 → R[t]? = D[t]?) ∧ Below B w0 wr ∧ g < wr.heap.size) (fun _ v7 _ => n1 - (RowKit.intOf v7).toNat)
          case atStart => exact ⟨k, 1, D, Nat.le_refl _, by have := HN1.out; omega, by omega, rfl, rfl, HN.out, HRy.out, HOK.out, HF2.out.symm, fun _ _ => rfl, HBy.out, HGy.out⟩
          case round =>
            clear HRy HBy HGy HF2
            obtain ⟨m, q, R, hq1, hq, hmq, rfl, rfl, hRl, hRr, hRok, hRt, hRd, hb, hg⟩ := hrel
            have HRL := Lib.hid hRl
            have HRr := Lib.hid hRr
            have HRO := Lib.hid hRok
            have HRT := Lib.hid hRt
            have HRD := Lib.hid hRd
            have HBr := Lib.hid hb
            have HGr := Lib.hid hg
            clear hRl hRr hRok hRt hRd hb hg
            have hkn := HN1.out
            by_cases hqn : q < n1
            · have hjl : k + q < D.length := by rw [HN.out]; omega
              have hjR : k + q < R.length := by rw [HRL.out]; omega
              have hpR : k + q - 1 < R.length := by omega
              have HST := Lib.hid (firsts_step D (k + q) (by omega) hjl)
              have hxs := HRr.out.st HRO.out (k + q) hjR
              have hys := HRr.out.st HRO.out (k + q - 1) hpR
              have e1 : R[k + q] = D[k + q] := by
                have := HRD.out (k + q) (by omega)
                rw [List.getElem?_eq_getElem hjR, List.getElem?_eq_getElem hjl] at this
                exact Option.some.inj this
              have e2 : R[k + q - 1] = D[k + q - 1]'(by omega) := by
                have := HRD.out (k + q - 1) (by omega)
                rw [List.getElem?_eq_getElem hpR, List.getElem?_eq_getElem (by omega)] at this
                exact Option.some.inj this
              rw [← e1, ← e2] at HST
              have HGX := Lib.hid (show R[k + q]? = some R[k + q] from List.getElem?_eq_getElem hjR)
              obtain ⟨x, hx⟩ : ∃ x, R[k + q] = x := ⟨_, rfl⟩
              obtain ⟨y, hy⟩ : ∃ y, R[k + q - 1] = y := ⟨_, rfl⟩
              rw [hx] at hxs HST HGX
              rw [hy] at hys HST
              clear e1 e2 hx hy hjl hpR
              have hmR : m < R.length := by omega
              have hth := HRr.out.there HRO.out m 34 (by omega)
              have hset := HRr.out.set HRO.out m hmR x hxs.1
              have HOKx := Lib.hid hxs.1
              have HSET := Lib.hid hset
              have HTH := Lib.hid hth
              obtain ⟨q', hq'⟩ : ∃ q', q = q' + 1 := ⟨q - 1, by omega⟩
              have hwq : IntKind.i64.wrap ((q : Int) - 1) = (q' : Int) := by rw [IntWalk.i64_in _ (by omega)]; omega
              have qj0 : (0 : Int) ≤ (q' : Int) := by omega
              have qj1 : (q' : Int) < (n1 : Int) := by omega
              have qk0 : (0 : Int) ≤ (q : Int) := by omega
              have qk1 : (q : Int) < (n1 : Int) := by omega
              have qm0 : (0 : Int) ≤ (m : Int) := by omega
              have qm1 : (m : Int) < (N : Int) := by omega
              have hL1 : StAt wr ⟨g, k * 34 + q * 34, none⟩ x := by rw [← Nat.add_mul]; exact hxs
              have hL2 : StAt wr ⟨g, k * 34 + q' * 34, none⟩ y := by rw [← Nat.add_mul, show k + q' = k + q - 1 by omega]; exact hys
              have HL1 := Lib.hid (fun w' (h : Below wr.heap.size wr w') => (hL1.below h).load)
              have HL2 := Lib.hid (fun w' (h : Below wr.heap.size wr w') => (hL2.below h).load)
              have HEQ := Lib.hid (fun W : World => eq_clo_b x y hxs.1 hys.1 W)
              have HQ' := Lib.hid hq'
              clear hxs hys hL1 hL2 hth hset hjR hmR hq'
              go_upto_region 11 with (fail)
              refine wp_region_cls (by kernel_rfl) (by kernel_rfl) ?_
              repeat (first | go_big_quiet_skip | (go_big_quiet_want; refine quiet_ld 32 (.tmp 41) rfl ⟨g, k * 34 + q * 34, none⟩ rfl (vSt x) HL1.out ?_; (try simp only [Act.put, List.setIfInBounds_toArray, List.set_cons_zero, List.set_cons_succ]); go_big_quiet_on) | (go_big_quiet_want; refine quiet_ld 32 (.tmp 46) rfl ⟨g, k * 34 + q' * 34, none⟩ rfl (vSt y) HL2.out ?_; (try simp only [Act.put, List.setIfInBounds_toArray, List.set_cons_zero, List.set_cons_succ]); go_big_quiet_on) | go_big_quiet_step (refine cls_call (HEQ.out _)))
              refine wpQuiet_nil ?_
              rintro wy ⟨i, rfl⟩
              have HRy := Lib.hid (HRr.out.below HGr.out i.below)
              have HBy := Lib.hid (HBr.out.trans (i.below.mono' HGr.out hB))
              have HGy := Lib.hid (Nat.lt_of_lt_of_le HGr.out i.below.size)
              have HLy := Lib.hid (HL1.out _ i.below)
              obtain ⟨wz, hwz⟩ : ∃ wz, i.at = wz := ⟨_, rfl⟩
              rw [hwz] at HRy HBy HGy HLy ⊢
              clear hwz i HL1 HL2 HEQ HRr HBr HGr HSET HTH hwq qj0 qj1
              by_cases hxy : x.n = y.n
              · have hd : decide (x.n = y.n) = true := by simpa using hxy
                have HF3 := Lib.hid (show firsts none (D.take (k + q + 1)) = firsts none (D.take (k + q)) by rw [HST.out, if_pos hxy, List.append_nil])
                rw [hd]
                clear hd hxy
                go_wp2_with fail
                go_roundw
                case rel => exact ⟨m, q + 1, R, by omega, by omega, by omega, rfl, by go_num, HRL.out, HRy.out, HRO.out, HRT.out.trans HF3.out.symm, fun t ht => HRD.out t (by omega), HBy.out, HGy.out⟩
                all_goals (simp only [RowKit.intOf]; omega)
              · have hd : decide (x.n = y.n) = false := by simpa using hxy
                have HF3 := Lib.hid (show firsts none (D.take (k + q + 1)) = firsts none (D.take (k + q)) ++ [x] by rw [HST.out, if_neg hxy])
                rw [hd]
                clear hd hxy
                have HTH := Lib.hid (HRy.out.there HRO.out m 34 (by rw [HRL.out]; omega))
                have HSET := Lib.hid (HRy.out.set HRO.out m (by rw [HRL.out]; omega) x HOKx.out)
                go_wp2_with (first | (with_reducible refine wpList_ldg rfl 32 (.tmp 54) rfl ⟨g, k * 34 + q * 34, none⟩ rfl _ HLy.out ?_) | (with_reducible refine wpList_st rfl (.tmp 56) (.tmp 55) rfl g (m * 34) rfl x HOKx.out rfl HTH.out ?_))
                go_roundw
                case rel =>
                  refine ⟨m + 1, q + 1, R.set m x, by omega, by omega, by omega, by go_num, by go_num, by rw [List.length_set]; exact HRL.out, HSET.out, fun z hz => ?_, ?_, fun t ht => ?_, setCells_below g hB _ _ _ HBy.out, by rw [setCells_size]; exact HGy.out⟩
                  · rcases List.mem_or_eq_of_mem_set hz with h | h
                    · exact HRO.out z h
                    · rw [h]; exact HOKx.out
                  · have hml : m < (R.set m x).length := by rw [List.length_set, HRL.out]; omega
                    rw [List.take_succ_eq_append_getElem hml, List.getElem_set_self, show k + (q + 1) = k + q + 1 from rfl, HF3.out, ← HRT.out]
                    congr 1
                    rw [List.take_set, List.set_eq_of_length_le (by rw [List.length_take]; omega)]
                  · rw [List.getElem?_set_ne (by omega)]
                    exact HRD.out t (by omega)
                all_goals (simp only [RowKit.intOf]; omega)
            · have hqe : q = n1 := by omega
              subst hqe
              have HFN := Lib.hid (show firsts none D = R.take m by
                have h := HRT.out
                rw [hkn, ← HN.out, List.take_length] at h
                exact h.symm)
              obtain ⟨n2, hn2⟩ : ∃ n2, n2 = N - m := ⟨_, rfl⟩
              obtain ⟨c2, hc2⟩ : ∃ c2, c2 = cap - m := ⟨_, rfl⟩
              have hsl := cut_low g N cap m n2 c2 (by omega) (by omega) hn2 hc2
              obtain ⟨i32, hi32, _, _, _⟩ := info_parts info32
              have hsh := cut_cap (P := Try.prog) 22 32 .i64 Try.underlying22 hi32 (some ⟨g, 0, none⟩) N cap (m : Int) (by omega) (by omega)
              rw [Int.toNat_natCast] at hsh
              obtain ⟨zs, hzs⟩ := run_clear HRr.out HRO.out m n2 c2 (by omega) (by rw [HRL.out]; omega) 0
              have HCL := Lib.hid (HRr.out.cleared HRO.out m zs)
              have HMR := Lib.hid (show (R.take m).length = m by rw [List.length_take, HRL.out]; omega)
              clear hn2 hc2 hi32
              go_wp2_with fail
              go_ret
              rw [HFN.out, HMR.out]
              exact ⟨rfl, HCL.out, setCells_below g hB _ _ _ HBr.out, by rw [setCells_size]; exact HGr.out⟩
        · have hd : decide (x.n = y.n) = false := by simpa using hxy
          have HF2 := Lib.hid (show firsts none (D.take (k + 1)) = D.take (k + 1) by rw [HST.out, HF.out, HTK.out, if_neg hxy])
          rw [hd]
          clear hd
          go_wp2_with fail
          go_roundw
          case rel => exact ⟨k + 1, by omega, by omega, by go_num, HRy.out, HBy.out, HGy.out, HF2.out⟩
          all_goals (simp only [RowKit.intOf]; omega)
      · have he : k = N := by omega
        have HFN := Lib.hid (show firsts none D = D from by
          have h := HF.out
          rw [he, ← HN.out, List.take_length] at h
          exact h)
        clear HF
        subst he
        go_wp2_with fail
        go_ret
        rw [HFN.out, HN.out]
        exact ⟨rfl, HRr.out, HBr.out, HGr.out⟩
end Go.Proofs.Ytkjaffnplehhaaa.Rg
