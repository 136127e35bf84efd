/- The walk of the reference's Merge. -/
import Derived.Test.YtkjaffnplehhaaaRgI
namespace Go.Proofs.Ytkjaffnplehhaaa.Rg
open Go Go.Lib Go.RowKit Go.ChangeMaps Go.Proofs.YtkjaffnplehhaaaW.PrintWords Go.Proofs.YtkjaffnplehhaaaW.PrintLast Go.Proofs.YtkjaffnplehhaaaW.PrintMore Go.Proofs.Ytkjaffnplehhaaa.PRefsMerge Go.Sort
set_option linter.unusedVariables false
set_option linter.unusedSimpArgs false
/-! ### plain: where a stamp goes -/
theorem ins_len : ∀ (m : List Stp) (x : Stp), (ins m x).length ≤ m.length + 1
  | [], x => by simp [ins]
  | y :: r, x => by
    unfold ins
    have := ins_len r x
    split
    · simp; omega
    · split
      · split <;> simp
      · simp
theorem ins_put : ∀ (m : List Stp) (x : Stp) (k : Nat), k ≤ m.length → (∀ j (h : j < m.length), j < k → m[j].n < x.n) → (∀ h : k < m.length, ¬ m[k].n < x.n ∧ m[k].n ≠ x.n) → ins m x = m.take k ++ x :: m.drop k
  | [], x, k, hk, _, _ => by simp [ins]
  | y :: r, x, 0, hk, hb, ha => by
    have h := ha (by simp)
    unfold ins
    rw [if_neg (by simpa using h.1), if_neg (by simpa using h.2)]
    simp
  | y :: r, x, k + 1, hk, hb, ha => by
    have h := hb 0 (by simp) (by omega)
    unfold ins
    rw [if_pos (by simpa using h), ins_put r x k (by simpa using hk) (fun j hj hjk => by
      have := hb (j + 1) (by simpa using hj) (by omega)
      simpa using this) (fun hkr => by
      have := ha (by simpa using hkr)
      simpa using this)]
    simp
theorem ins_same : ∀ (m : List Stp) (x : Stp) (k : Nat) (hk : k < m.length), (∀ j (h : j < m.length), j < k → m[j].n < x.n) → ¬ m[k].n < x.n → m[k].n = x.n → ins m x = if better x m[k] then m.set k x else m
  | [], x, k, hk, _, _, _ => by simp at hk
  | y :: r, x, 0, hk, hb, h1, h2 => by
    have h1' : ¬ y.n < x.n := by simpa using h1
    have h2' : y.n = x.n := by simpa using h2
    unfold ins
    rw [if_neg h1', if_pos h2']
    unfold better
    simp
  | y :: r, x, k + 1, hk, hb, h1, h2 => by
    have h := hb 0 (by simp) (by omega)
    unfold ins
    rw [if_pos (by simpa using h), ins_same r x k (by simpa using hk) (fun j hj hjk => by
      have := hb (j + 1) (by simpa using hj) (by omega)
      simpa using this) (by simpa using h1) (by simpa using h2)]
    simp only [List.getElem_cons_succ, List.set_cons_succ]
    split <;> rfl
theorem fold_snoc (L : List Stp) (i : Nat) (h : i < L.length) : (L.take (i + 1)).foldl ins [] = ins ((L.take i).foldl ins []) L[i] := by
  rw [List.take_succ_eq_append_getElem h, List.foldl_append]
  rfl
/-! ### the list that grows -/
def OutAt (w : World) (s : Nat) (A : Option Addr) (c : Nat) (out : List Stp) : Prop := Kd.C kSt w A out.length out ∧ out.length ≤ c ∧ (∀ x ∈ out, x.Ok) ∧ (0 < out.length → ∃ g, A = some ⟨g, 0, none⟩ ∧ s ≤ g ∧ g < w.heap.size ∧ RowAt w g out)
theorem OutAt.nil (w : World) (s : Nat) : OutAt w s none 0 [] := ⟨Kd.C_nil _ _, Nat.le_refl _, fun x hx => (List.not_mem_nil hx).elim, fun h => absurd h (Nat.lt_irrefl 0)⟩
theorem OutAt.below {w w' : World} {s : Nat} {A : Option Addr} {c : Nat} {out : List Stp} (h : OutAt w s A c out) (hb : Below w.heap.size w w') : OutAt w' s A c out :=
  ⟨Kd.C_below h.1 hb, h.2.1, h.2.2.1, fun hp => by
    obtain ⟨g, e, h1, h2, h3⟩ := h.2.2.2 hp
    exact ⟨g, e, h1, Nat.lt_of_lt_of_le h2 hb.size, h3.below h2 hb⟩⟩
theorem OutAt.lower {w : World} {s s' : Nat} {A : Option Addr} {c : Nat} {out : List Stp} (h : OutAt w s A c out) (hs : s' ≤ s) : OutAt w s' A c out :=
  ⟨h.1, h.2.1, h.2.2.1, fun hp => by
    obtain ⟨g, e, h1, h2, h3⟩ := h.2.2.2 hp
    exact ⟨g, e, Nat.le_trans hs h1, h2, h3⟩⟩
theorem OutAt.of_R {w : World} {s : Nat} {ok : Nat → Prop} {v : Value} {out : List Stp} (h : Kd.R kSt 32 w s ok v out) : ∃ A c, v = .slice A out.length c ∧ OutAt w s A c out := by
  obtain ⟨A, c, rfl⟩ := Kd.R_slice h
  obtain ⟨_, hc, hC⟩ := Kd.R_reads' h
  refine ⟨A, c, rfl, hC, hc, R_oks h, fun hp => ?_⟩
  obtain ⟨g, cap, he, _⟩ := Kd.R_form h hp
  obtain ⟨g', cap', he', h1, h2, h3, h4⟩ := R_row h (b := g) (by rw [he]; simp [Value.ownBlock])
  injection he' with e1 _ _
  exact ⟨g', e1, h1, h2, h4⟩
/-- A stamp stored at its place. -/
theorem OutAt.set {w : World} {s g c : Nat} {out : List Stp} (hr : RowAt w g out) (hok : ∀ x ∈ out, x.Ok) (hg : g < w.heap.size) (hs : s ≤ g) (hc : out.length ≤ c) (hl : out.length ≤ 4000000000) (k : Nat) (hk : k < out.length) (x : Stp) (hx : x.Ok) :
    OutAt (w.setCells g (k * 34) (encSt x)) s (some ⟨g, 0, none⟩) c (out.set k x) := by
  have hrow := hr.set hok k hk x hx
  have hok2 : ∀ z ∈ out.set k x, z.Ok := fun z hz => by
    rcases List.mem_or_eq_of_mem_set hz with h | h
    · exact hok z h
    · rw [h]; exact hx
  refine ⟨hrow.C hok2 (by rw [List.length_set]; omega), by rw [List.length_set]; exact hc, hok2, fun _ => ⟨g, rfl, hs, by rw [setCells_size]; exact hg, hrow⟩⟩
theorem cut_from (A : Option Addr) (N c k n1 c1 : Nat) (B : Option Addr) (hk : k ≤ N) (hn : n1 = N - k) (hc1 : c1 = c - k) (hB : B = if c = k then A else A.map (·.add (k * 34))) : ∀ W : World, (Instr.slice 22 (.slice A N c) (some (.int .i64 (k : Int))) none none).run Try.prog W = .ok (.slice B n1 c1) W := by
  intro W
  have hel : Try.prog.elem 22 = 32 := by simp [Program.elem, Try.underlying22]
  have hu : Try.prog.underlying 22 = some (.slice (Try.prog.elem 22)) := by rw [hel]; exact Try.underlying22
  subst hn hc1 hB
  rw [run_slice_l W 22 A N c hu .i64 (k : Int) (by omega) (by omega), hel, Try.sizeOf32]
  simp only [Result.andThen_ok, sliced, Int.toNat_natCast]
theorem fill_from : ∀ (l : List Value) (p : List Value) (z : Array Value), p.length + l.length = z.size → z.toList.take p.length = p → (l.zipIdx p.length).foldl (fun cs x => cs.setIfInBounds x.snd x.fst) z = (p ++ l).toArray
  | [], p, z, hs, hp => by
    apply Array.ext'
    rw [List.append_nil]
    show z.toList = p
    rw [← hp, List.take_of_length_le]
    simp at hs ⊢
    omega
  | v :: l, p, z, hs, hp => by
    rw [List.zipIdx_cons, List.foldl_cons]
    have hpz : p.length < z.size := by simp at hs; omega
    have h := fill_from l (p ++ [v]) (z.setIfInBounds p.length v) (by simp at hs ⊢; omega) (by
      rw [List.length_append, Array.toList_setIfInBounds]
      apply List.ext_getElem?
      intro j
      rw [List.getElem?_take]
      by_cases hj : j < p.length
      · rw [if_pos (by simp; omega), List.getElem?_set_ne (by omega), List.getElem?_append_left hj]
        have h9 : (z.toList.take p.length)[j]? = z.toList[j]? := by rw [List.getElem?_take, if_pos hj]
        rw [hp] at h9
        exact h9.symm
      · by_cases e : j = p.length
        · subst e
          rw [if_pos (by simp), List.getElem?_set_self (by simpa using hpz), List.getElem?_append_right (Nat.le_refl _)]
          simp
        · rw [if_neg (by simp; omega), List.getElem?_eq_none (by simp; omega)])
    simp only [List.length_append, List.length_singleton] at h
    rw [h]
    simp
theorem fill_cells (z : Array Value) (l : List Value) (h : l.length = z.size) : l.zipIdx.foldl (fun cs x => cs.setIfInBounds x.snd x.fst) z = l.toArray := by
  have := fill_from l [] z (by simpa using h) rfl
  simpa using this
/-- What the reference's Merge tells. -/
def Told9 (l m : List Stp) (w : World) (e : Ending) (w' : World) : Prop := ∃ A c k, e = .returned (.slice A k.length c) ∧ IsMerge (l ++ m) k ∧ Kd.C kSt w' A k.length k ∧ Below w.heap.size w w'
set_option maxRecDepth 100000 in
set_option maxHeartbeats 4000000 in
theorem smerge_walk (l m : List Stp) (A B : Option Addr) (c d : Nat) (w : World) (hA : Kd.C kSt w A l.length l) (hB : Kd.C kSt w B m.length m) (hl : l.length + m.length ≤ 1000000000) :
    Calls Try.prog 9 #[.slice A l.length c, .slice B m.length d] w (Told9 l m w) := by
  have HA := Lib.hid hA
  have HB := Lib.hid hB
  have HR0 := Lib.hid (Kd.R_nil kSt 32 w w.heap.size (fun k => w.heap.size ≤ k))
  clear hA hB
  go_enter Try.func9, Try.ntmps9
  go_upto_region 4 with (first | (at_builtin; refine Kd.R_append_rows kSt (Rr := fun x cs => x.Ok ∧ cs = encSt x) (w0 := w) (W := w) w.heap.size rfl (.tmp 10) (.tmp 11) 22 32 _ 56 rfl Try.underlying22 info32 (by decide) (by decide) (by decide) _ [] l A l.length c (fun k => w.heap.size ≤ k) (fun _ => False) rfl rfl HR0.out HA.out (fun _ _ h => h) (fun _ hk => hk.elim) (fun k hk => hk) (Below.refl _ _) (Nat.le_refl _) (by simp; omega) ?_; intro v1 w1 hr1 hb1 hg1 hat1; have HR1 := Lib.hid hr1; have HB1 := Lib.hid hb1; clear hr1 hb1 hg1 hat1) | (at_builtin; refine Kd.R_append_rows kSt (Rr := fun x cs => x.Ok ∧ cs = encSt x) (w0 := w) (W := w1) w.heap.size rfl (.tmp 13) (.tmp 14) 22 32 _ 56 rfl Try.underlying22 info32 (by decide) (by decide) (by decide) _ _ m B m.length d (fun k => w.heap.size ≤ k) (fun _ => False) rfl rfl HR1.out (Kd.C_below HB.out HB1.out) (fun _ _ h => h) (fun _ hk => hk.elim) (fun k hk => Nat.le_trans HB1.out.size hk) HB1.out HB1.out.size (by simp; omega) ?_; intro v2 w2 hr2 hb2 hg2 hat2; have HR2 := Lib.hid hr2; have HB2 := Lib.hid hb2; clear hr2 hb2 hg2 hat2))
  rw [List.nil_append] at HR2
  have HLL := Lib.hid (show (l ++ m).length ≤ 1000000000 by rw [List.length_append]; omega)
  obtain ⟨L, hL⟩ : ∃ L, l ++ m = L := ⟨_, rfl⟩
  rw [hL] at HR2 HLL
  have HLM := Lib.hid hL
  clear hL
  obtain ⟨A2, c2, hv2, hO2⟩ := OutAt.of_R HR2.out
  have HO := Lib.hid hO2
  subst hv2
  obtain ⟨N, hN⟩ : ∃ N, L.length = N := ⟨_, rfl⟩
  have HN := Lib.hid hN
  have hNb : N ≤ 1000000000 := hN ▸ HLL.out
  rw [hN]
  clear hN hO2 HR2 HR1 HB1 HR0 HLL hl
  go_wp2_with fail
  go_loopw [6, 7] (fun v6 v7 wr => ∃ (i c6 : Nat) (A6 : Option Addr) (out : List Stp), i ≤ N ∧ v7 = .int .i64 i ∧ v6 = .slice A6 out.length c6 ∧ OutAt wr w2.heap.size A6 c6 out ∧ Below w2.heap.size w2 wr ∧ out = (L.take i).foldl ins [] ∧ out.length ≤ i) (fun _ v7 _ => N - (RowKit.intOf v7).toNat)
  case atStart => exact ⟨0, 0, none, [], Nat.zero_le _, rfl, rfl, OutAt.nil _ _, Below.refl _ _, by simp, Nat.le_refl _⟩
  case round =>
    obtain ⟨i, c6, A6, out, hi, rfl, rfl, ho, hb, hf, hol⟩ := hrel
    have HOr := Lib.hid ho
    have HBr := Lib.hid hb
    have HF := Lib.hid hf
    clear ho hb hf
    by_cases hlt : i < N
    · have hil : i < L.length := by rw [HN.out]; exact hlt
      obtain ⟨g2, rfl, _, hg2, hrow2⟩ := HO.out.2.2.2 (by omega)
      have hxs := (hrow2.below hg2 HBr.out).st HO.out.2.2.1 i hil
      have HSN := Lib.hid (fold_snoc L i hil)
      obtain ⟨x, hx⟩ : ∃ x, L[i] = x := ⟨_, rfl⟩
      rw [hx] at hxs HSN
      have HXr := Lib.hid hxs
      have qi0 : (0 : Int) ≤ (i : Int) := by omega
      have qi1 : (i : Int) < (N : Int) := by omega
      clear hxs hx hil hg2 hrow2
      obtain ⟨bx, hbx⟩ : ∃ bx : ByteArray, (⟨x.n.toArray⟩ : ByteArray) = bx := ⟨_, rfl⟩
      have HBX := Lib.hid hbx
      clear hbx
      go_wp2_with fail
      obtain ⟨wo, rfl⟩ : ∃ wo, wo = wr := ⟨_, rfl⟩
      go_loopw [8] (fun v8 wq => ∃ k : Nat, k ≤ out.length ∧ v8 = .int .i64 k ∧ Below wo.heap.size wo wq ∧ ∀ j (h : j < out.length), j < k → out[j].n < x.n) (fun v8 _ => out.length - (RowKit.intOf v8).toNat)
      case atStart => exact ⟨0, Nat.zero_le _, rfl, Below.refl _ _, fun j _ h => absurd h (Nat.not_lt_zero _)⟩
      case round =>
        obtain ⟨k, hk, rfl, hbq, hlow⟩ := hrel
        have HLOW := Lib.hid hlow
        have HBq := Lib.hid hbq
        have HXq := Lib.hid (HXr.out.below hbq)
        have HOq := Lib.hid (HOr.out.below hbq)
        have HBwq := Lib.hid (HBr.out.trans (hbq.mono HBr.out.size))
        clear hlow hbq
        by_cases hkl : k < out.length
        · obtain ⟨g, rfl, hsg, hg, hrow⟩ := HOq.out.2.2.2 (by omega)
          have hys := hrow.st HOq.out.2.2.1 k hkl
          have HSG := Lib.hid hsg
          have HG := Lib.hid hg
          have HROW := Lib.hid hrow
          clear hsg hg hrow
          have HNX := Lib.hid (show ∀ y, out[k] = y → y.n < x.n → ∀ j (h : j < out.length), j < k + 1 → out[j].n < x.n from fun y hy hyx j h hj => by
            by_cases e : j = k
            · subst e; rw [hy]; exact hyx
            · exact HLOW.out j h (by omega))
          have HSAME := Lib.hid (fun h1 h2 => ins_same out x k hkl HLOW.out h1 h2)
          have HPUT0 := Lib.hid (fun h => ins_put out x k hk HLOW.out h)
          have HGK := Lib.hid (show ∀ h : k < out.length, out[k] = out[k] from fun _ => rfl)
          obtain ⟨y, hy⟩ : ∃ y, out[k] = y := ⟨_, rfl⟩
          have HY := Lib.hid hy
          rw [hy] at hys HSAME
          have HNX2 := Lib.hid (HNX.out y hy)
          clear HNX HGK hy
          have qk0 : (0 : Int) ≤ (k : Int) := by omega
          have qk1 : (k : Int) < (out.length : Int) := by omega
          obtain ⟨bt, hbt⟩ : ∃ bt : ByteArray, (⟨y.n.toArray⟩ : ByteArray) = bt := ⟨_, rfl⟩
          have nx : ∀ q : Cls wr, q.at.cell? ⟨g2, i * 34, none⟩ = some (.string bx) := fun q => q.cell (HBX.out ▸ HXq.out.name)
          have ny : ∀ q : Cls wr, q.at.cell? ⟨g, k * 34, none⟩ = some (.string bt) := fun q => q.cell (hbt ▸ hys.name)
          have HYS := Lib.hid hys
          by_cases hyx : y.n < x.n
          · have hbl : Op.bytesLess bt.toList bx.toList = true := by rw [← hbt, ← HBX.out, bytesLess_eq]; simpa [ByteArray.toList_eq] using hyx
            have HNX3 := Lib.hid (HNX2.out hyx)
            clear hbt hys hyx
            go_upto_region 9 with (fail)
            refine wp_region_cls (by kernel_rfl) (by kernel_rfl) ?_
            repeat (first | go_big_quiet_skip | go_big_quiet_step (fail))
            refine wpQuiet_nil ?_
            rintro wy ⟨q, rfl⟩
            have HQ := Lib.hid (HBq.out.trans (q.below.mono HBq.out.size))
            clear nx ny hbl
            go_wp2_with fail
            go_roundw
            case rel => exact ⟨k + 1, by omega, by go_num, HQ.out, HNX3.out⟩
            all_goals (simp only [RowKit.intOf]; omega)
          · have hbl : Op.bytesLess bt.toList bx.toList = false := by rw [← hbt, ← HBX.out, bytesLess_eq]; simpa [ByteArray.toList_eq] using hyx
            have HYX := Lib.hid hyx
            have HBT := Lib.hid hbt
            clear hbt hys hyx
            go_upto_region 9 with (fail)
            refine wp_region_cls (by kernel_rfl) (by kernel_rfl) ?_
            repeat (first | go_big_quiet_skip | go_big_quiet_step (fail))
            refine wpQuiet_nil ?_
            rintro wy ⟨q, rfl⟩
            have HXw := Lib.hid (HXq.out.below q.below)
            have HYw := Lib.hid (HYS.out.below q.below)
            have HOw := Lib.hid (HOq.out.below q.below)
            have HBw := Lib.hid (HBwq.out.trans (q.below.mono HBwq.out.size))
            have HROWw := Lib.hid (HROW.out.below HG.out q.below)
            have HGw := Lib.hid (Nat.lt_of_lt_of_le HG.out q.below.size)
            obtain ⟨wv, hwv⟩ : ∃ wv, q.at = wv := ⟨_, rfl⟩
            rw [hwv] at HXw HYw HOw HBw HROWw HGw ⊢
            clear hwv q nx ny hbl HXq HOq HBwq HROW HG HYS
            have nx : ∀ q : Cls wv, q.at.cell? ⟨g2, i * 34, none⟩ = some (.string bx) := fun q => q.cell (HBX.out ▸ HXw.out.name)
            have ny : ∀ q : Cls wv, q.at.cell? ⟨g, k * 34, none⟩ = some (.string bt) := fun q => q.cell (HBT.out ▸ HYw.out.name)
            by_cases he : y.n = x.n
            · have heq : (bt.toList == bx.toList) = true := by rw [← HBT.out, ← HBX.out]; simpa [ByteArray.toList_eq] using he
              have HINS := Lib.hid (HSAME.out HYX.out he)
              clear he
              go_upto_region 11 with (fail)
              refine wp_region_cls (by kernel_rfl) (by kernel_rfl) ?_
              repeat (first | go_big_quiet_skip | go_big_quiet_step (fail))
              refine wpQuiet_nil ?_
              rintro wy ⟨q, rfl⟩
              have HXz := Lib.hid (HXw.out.below q.below)
              have HYz := Lib.hid (HYw.out.below q.below)
              have HOz := Lib.hid (HOw.out.below q.below)
              have HBz := Lib.hid (HBw.out.trans (q.below.mono HBw.out.size))
              have HROWz := Lib.hid (HROWw.out.below HGw.out q.below)
              have HGz := Lib.hid (Nat.lt_of_lt_of_le HGw.out q.below.size)
              obtain ⟨wz, hwz⟩ : ∃ wz, q.at = wz := ⟨_, rfl⟩
              rw [hwz] at HXz HYz HOz HBz HROWz HGz ⊢
              clear hwz q nx ny heq HXw HOw HBw HROWw HGw HYw
              have HL1 := Lib.hid (fun w' (h : Below wz.heap.size wz w') => (HXz.out.below h).load)
              have HL2 := Lib.hid (fun w' (h : Below wz.heap.size wz w') => (HYz.out.below h).load)
              have HBET := Lib.hid (fun W : World => better_walk x y HXz.out.1 HYz.out.1 W)
              go_upto_region 12 with (fail)
              refine wp_region_cls (by kernel_rfl) (by kernel_rfl) ?_
              repeat (first | go_big_quiet_skip | (go_big_quiet_want; refine quiet_ld 32 (.tmp 60) rfl ⟨g2, i * 34, none⟩ rfl (vSt x) HL1.out ?_; (try simp only [Act.put, List.setIfInBounds_toArray, List.set_cons_zero, List.set_cons_succ]); go_big_quiet_on) | (go_big_quiet_want; refine quiet_ld 32 (.tmp 64) rfl ⟨g, k * 34, none⟩ rfl (vSt y) HL2.out ?_; (try simp only [Act.put, List.setIfInBounds_toArray, List.set_cons_zero, List.set_cons_succ]); go_big_quiet_on) | go_big_quiet_step (refine cls_call (HBET.out _)))
              refine wpQuiet_nil ?_
              rintro wy ⟨q, rfl⟩
              have HXs := Lib.hid (HXz.out.below q.below)
              have HOs := Lib.hid (HOz.out.below q.below)
              have HBs := Lib.hid (HBz.out.trans (q.below.mono HBz.out.size))
              have HROWs := Lib.hid (HROWz.out.below HGz.out q.below)
              have HGs := Lib.hid (Nat.lt_of_lt_of_le HGz.out q.below.size)
              obtain ⟨ws, hws⟩ : ∃ ws, q.at = ws := ⟨_, rfl⟩
              rw [hws] at HXs HOs HBs HROWs HGs ⊢
              clear hws q HL1 HL2 HBET HXz HOz HBz HROWz HGz HYz
              by_cases hbe : better x y = true
              · have HRES := Lib.hid (show out.set k x = (L.take (i + 1)).foldl ins [] by rw [HSN.out, ← HF.out, HINS.out, if_pos hbe])
                have HTH := Lib.hid (HROWs.out.there HOs.out.2.2.1 k 34 (by omega))
                have HLS := Lib.hid HXs.out.load
                have HOKX := Lib.hid HXs.out.1
                have HSET := Lib.hid (OutAt.set HROWs.out HOs.out.2.2.1 HGs.out HSG.out HOs.out.2.1 (by omega) k hkl x HXs.out.1)
                have HBSET := Lib.hid (setCells_below g HSG.out (encSt x) (k * 34) _ HBs.out)
                have HLEN := Lib.hid (show (out.set k x).length = out.length from List.length_set)
                rw [hbe]
                clear hbe
                go_wp2_with (first | (with_reducible refine wpList_ldg rfl 32 (.tmp 71) rfl ⟨g2, i * 34, none⟩ rfl _ HLS.out ?_) | (with_reducible refine wpList_st rfl (.tmp 73) (.tmp 72) rfl g (k * 34) rfl x HOKX.out rfl HTH.out ?_))
                go_roundw
                case rel => exact ⟨i + 1, c6, _, out.set k x, by omega, by go_num, by rw [HLEN.out], HSET.out, HBSET.out, HRES.out, by rw [HLEN.out]; omega⟩
                all_goals (simp only [RowKit.intOf]; omega)
              · have hbe' : better x y = false := by simpa using hbe
                have HRES := Lib.hid (show out = (L.take (i + 1)).foldl ins [] by rw [HSN.out, ← HF.out, HINS.out, if_neg hbe])
                rw [hbe']
                clear hbe hbe'
                go_wp2_with fail
                go_roundw
                case rel => exact ⟨i + 1, c6, _, out, by omega, by go_num, rfl, HOs.out, HBs.out, HRES.out, by omega⟩
                all_goals (simp only [RowKit.intOf]; omega)
            · have heq : (bt.toList == bx.toList) = false := by rw [← HBT.out, ← HBX.out]; simpa [ByteArray.toList_eq] using he
              have HPUT := Lib.hid (HPUT0.out (fun h => by rw [HY.out]; exact ⟨HYX.out, he⟩))
              clear he
              go_upto_region 11 with (fail)
              refine wp_region_cls (by kernel_rfl) (by kernel_rfl) ?_
              repeat (first | go_big_quiet_skip | go_big_quiet_step (fail))
              refine wpQuiet_nil ?_
              rintro wy ⟨q, rfl⟩
              have HX := Lib.hid (HXw.out.below q.below)
              have HOz := Lib.hid (HOw.out.below q.below)
              have HBz := Lib.hid (HBw.out.trans (q.below.mono HBw.out.size))
              obtain ⟨wz, hwz⟩ : ∃ wz, q.at = wz := ⟨_, rfl⟩
              rw [hwz] at HX HOz HBz ⊢
              clear hwz q nx ny heq HXw HOw HBw HROWw HGw HYw
              obtain ⟨A6, hA6⟩ : ∃ A6 : Option Addr, some (⟨g, 0, none⟩ : Addr) = A6 := ⟨_, rfl⟩
              rw [hA6] at HOz ⊢
              clear hA6 HSG qk0 qk1
              have hlk : (out.take k).length = k := by rw [List.length_take]; omega
              have hld : (out.drop k).length = out.length - k := List.length_drop
              have hCt := Kd.C_take HOz.out.1 (m := k) (by omega)
              have hCd := Kd.C_drop (c := c6) HOz.out.1 (m := k) (by omega) HOz.out.2.1
              rw [hlk] at hCt
              rw [hld] at hCd
              obtain ⟨M, hM⟩ : ∃ M, out.length = M := ⟨_, rfl⟩
              rw [hM] at hCd
              rw [hM]
              have hkM : k ≤ M := by omega
              have hMc : M ≤ c6 := hM ▸ HOz.out.2.1
              have hMN : M ≤ i := by omega
              obtain ⟨n1, hn1⟩ : ∃ n1, n1 = M - k := ⟨_, rfl⟩
              obtain ⟨c1, hc1⟩ : ∃ c1, c1 = c6 - k := ⟨_, rfl⟩
              have hn1b : n1 ≤ M := by omega
              obtain ⟨B6, hB6⟩ : ∃ B6, B6 = if c6 = k then A6 else A6.map (·.add (k * 34)) := ⟨_, rfl⟩
              obtain ⟨i32, hi32, _, _, _⟩ := info_parts info32
              have hsl1 := cut_cap (P := Try.prog) 22 32 .i64 Try.underlying22 hi32 A6 M c6 (k : Int) (by omega) (by omega)
              rw [Int.toNat_natCast] at hsl1
              have hsl2 := cut_from A6 M c6 k n1 c1 B6 hkM hn1 hc1 hB6
              have hCd' : Kd.C kSt wz B6 n1 (out.drop k) := by rw [hB6, hn1]; exact hCd
              have HCT := Lib.hid hCt
              have HCD := Lib.hid hCd'
              have HLK := Lib.hid hlk
              have HLD := Lib.hid (show (out.drop k).length = n1 by rw [hld, hM, hn1])
              have HR0 := Lib.hid (Kd.R_nil kSt 32 wz wz.heap.size (fun q => wz.heap.size ≤ q))
              have HN1 := Lib.hid hn1
              clear hlk hld hCt hCd hCd' hM hn1 hc1 hB6 hi32
              go_upto_region 16 with (first | (at_builtin; refine Kd.R_append_rows kSt (Rr := fun x cs => x.Ok ∧ cs = encSt x) (w0 := wz) (W := wz) wz.heap.size rfl (.tmp 74) (.tmp 77) 22 32 _ 56 rfl Try.underlying22 info32 (by decide) (by decide) (by decide) _ [] (out.take k) A6 k c6 (fun q => wz.heap.size ≤ q) (fun _ => False) rfl rfl HR0.out HCT.out (fun _ _ h => h) (fun _ hk => hk.elim) (fun k hk => hk) (Below.refl _ _) (Nat.le_refl _) (by simp; omega) ?_; intro v3 w3 hr3 hb3 hg3 hat3; have HR3 := Lib.hid hr3; have HB3 := Lib.hid hb3; clear hr3 hb3 hg3 hat3))
              rw [List.nil_append] at HR3
              have HL3 := Lib.hid ((HX.out.below HB3.out).load)
              have HEN := Lib.hid (encSt_len HX.out.1)
              have hen := HEN.out
              go_upto_region 17 with (first | (with_reducible refine wpList_ld rfl 32 (.tmp 82) rfl ⟨g2, i * 34, none⟩ rfl _ HL3.out ?_) | (at_builtin; rw [fill_cells _ _ (HEN.out.trans rfl)]; refine Kd.R_append kSt (W := w3) (w0 := wz) wz.heap.size rfl (.tmp 79) (.tmp 84) 22 32 _ 56 rfl Try.underlying22 info32 (by decide) (by decide) (by decide) _ (out.take k) x (encSt x) (fun q => wz.heap.size ≤ q) (fun _ => False) rfl (by simp [Act.eval]) ⟨HX.out.1, rfl⟩ (fun _ hk => hk.elim) (fun k hk => Nat.le_trans HB3.out.size hk) HR3.out HB3.out HB3.out.size (by rw [HLK.out]; omega) ?_; intro v4 w4 hr4 hb4 hg4 hat4; have HR4 := Lib.hid hr4; have HB4 := Lib.hid hb4; clear hr4 hb4 hg4 hat4))
              clear hen
              have HL4 := Lib.hid (show (out.take k ++ [x]).length = k + 1 by rw [List.length_append, HLK.out]; rfl)
              go_upto_region 18 with (first | (at_builtin; refine Kd.R_append_rows kSt (Rr := fun x cs => x.Ok ∧ cs = encSt x) (w0 := wz) (W := w4) wz.heap.size rfl (.tmp 86) (.tmp 89) 22 32 _ 56 rfl Try.underlying22 info32 (by decide) (by decide) (by decide) _ (out.take k ++ [x]) (out.drop k) B6 n1 c1 (fun q => wz.heap.size ≤ q) (fun _ => False) rfl rfl HR4.out (Kd.C_below HCD.out HB4.out) (fun _ _ h => h) (fun _ hk => hk.elim) (fun k hk => Nat.le_trans HB4.out.size hk) HB4.out HB4.out.size (by rw [HL4.out]; omega) ?_; intro v5 w5 hr5 hb5 hg5 hat5; have HR5 := Lib.hid hr5; have HB5 := Lib.hid hb5; clear hr5 hb5 hg5 hat5))
              obtain ⟨A7, c7, hv7, hO7⟩ := OutAt.of_R HR5.out
              have HNEW := Lib.hid (show out.take k ++ [x] ++ out.drop k = (L.take (i + 1)).foldl ins [] by rw [HSN.out, ← HF.out, HPUT.out]; simp)
              have HNL := Lib.hid (show (out.take k ++ [x] ++ out.drop k).length ≤ i + 1 by rw [List.length_append, HL4.out, HLD.out, HN1.out]; omega)
              have HO7 := Lib.hid (hO7.lower (s' := w2.heap.size) (by have := HBz.out.size; omega))
              have HB7 := Lib.hid (HBz.out.trans (HB5.out.mono HBz.out.size))
              obtain ⟨O7, hO7e⟩ : ∃ O7, out.take k ++ [x] ++ out.drop k = O7 := ⟨_, rfl⟩
              rw [hO7e] at HNEW HNL HO7
              rw [hO7e] at hv7
              subst hv7
              clear hO7e hO7 HR5 HR4 HR3 HR0 hsl1 hsl2
              go_wp2_with fail
              go_roundw
              case rel => exact ⟨i + 1, c7, A7, O7, by omega, by go_num, rfl, HO7.out, HB7.out, HNEW.out, HNL.out⟩
              all_goals (simp only [RowKit.intOf]; omega)
        · have HPUT := Lib.hid (ins_put out x k hk HLOW.out (fun h => absurd h hkl))
          have hkb : ¬ (k : Int) < (out.length : Int) := by omega
          go_upto_region 9 with (fail)
          refine wp_region_cls (by kernel_rfl) (by kernel_rfl) ?_
          repeat (first | go_big_quiet_skip | go_big_quiet_step (fail))
          refine wpQuiet_nil ?_
          rintro wy ⟨q, rfl⟩
          have HXw := Lib.hid (HXq.out.below q.below)
          have HOw := Lib.hid (HOq.out.below q.below)
          have HBw := Lib.hid (HBwq.out.trans (q.below.mono HBwq.out.size))
          obtain ⟨wv, hwv⟩ : ∃ wv, q.at = wv := ⟨_, rfl⟩
          rw [hwv] at HXw HOw HBw ⊢
          clear hwv q HXq HOq HBwq
          go_upto_region 11 with (fail)
          refine wp_region_cls (by kernel_rfl) (by kernel_rfl) ?_
          repeat (first | go_big_quiet_skip | go_big_quiet_step (fail))
          refine wpQuiet_nil ?_
          rintro wy ⟨q, rfl⟩
          have HX := Lib.hid (HXw.out.below q.below)
          have HOz := Lib.hid (HOw.out.below q.below)
          have HBz := Lib.hid (HBw.out.trans (q.below.mono HBw.out.size))
          obtain ⟨wz, hwz⟩ : ∃ wz, q.at = wz := ⟨_, rfl⟩
          rw [hwz] at HX HOz HBz ⊢
          clear hwz q HXw HOw HBw hkb
          have hlk : (out.take k).length = k := by rw [List.length_take]; omega
          have hld : (out.drop k).length = out.length - k := List.length_drop
          have hCt := Kd.C_take HOz.out.1 (m := k) (by omega)
          have hCd := Kd.C_drop (c := c6) HOz.out.1 (m := k) (by omega) HOz.out.2.1
          rw [hlk] at hCt
          rw [hld] at hCd
          obtain ⟨M, hM⟩ : ∃ M, out.length = M := ⟨_, rfl⟩
          rw [hM] at hCd
          rw [hM]
          have hkM : k ≤ M := by omega
          have hMc : M ≤ c6 := hM ▸ HOz.out.2.1
          have hMN : M ≤ i := by omega
          obtain ⟨n1, hn1⟩ : ∃ n1, n1 = M - k := ⟨_, rfl⟩
          obtain ⟨c1, hc1⟩ : ∃ c1, c1 = c6 - k := ⟨_, rfl⟩
          have hn1b : n1 ≤ M := by omega
          obtain ⟨B6, hB6⟩ : ∃ B6, B6 = if c6 = k then A6 else A6.map (·.add (k * 34)) := ⟨_, rfl⟩
          obtain ⟨i32, hi32, _, _, _⟩ := info_parts info32
          have hsl1 := cut_cap (P := Try.prog) 22 32 .i64 Try.underlying22 hi32 A6 M c6 (k : Int) (by omega) (by omega)
          rw [Int.toNat_natCast] at hsl1
          have hsl2 := cut_from A6 M c6 k n1 c1 B6 hkM hn1 hc1 hB6
          have hCd' : Kd.C kSt wz B6 n1 (out.drop k) := by rw [hB6, hn1]; exact hCd
          have HCT := Lib.hid hCt
          have HCD := Lib.hid hCd'
          have HLK := Lib.hid hlk
          have HLD := Lib.hid (show (out.drop k).length = n1 by rw [hld, hM, hn1])
          have HR0 := Lib.hid (Kd.R_nil kSt 32 wz wz.heap.size (fun q => wz.heap.size ≤ q))
          have HN1 := Lib.hid hn1
          clear hlk hld hCt hCd hCd' hM hn1 hc1 hB6 hi32
          go_upto_region 16 with (first | (at_builtin; refine Kd.R_append_rows kSt (Rr := fun x cs => x.Ok ∧ cs = encSt x) (w0 := wz) (W := wz) wz.heap.size rfl (.tmp 74) (.tmp 77) 22 32 _ 56 rfl Try.underlying22 info32 (by decide) (by decide) (by decide) _ [] (out.take k) A6 k c6 (fun q => wz.heap.size ≤ q) (fun _ => False) rfl rfl HR0.out HCT.out (fun _ _ h => h) (fun _ hk => hk.elim) (fun k hk => hk) (Below.refl _ _) (Nat.le_refl _) (by simp; omega) ?_; intro v3 w3 hr3 hb3 hg3 hat3; have HR3 := Lib.hid hr3; have HB3 := Lib.hid hb3; clear hr3 hb3 hg3 hat3))
          rw [List.nil_append] at HR3
          have HL3 := Lib.hid ((HX.out.below HB3.out).load)
          have HEN := Lib.hid (encSt_len HX.out.1)
          have hen := HEN.out
          go_upto_region 17 with (first | (with_reducible refine wpList_ld rfl 32 (.tmp 82) rfl ⟨g2, i * 34, none⟩ rfl _ HL3.out ?_) | (at_builtin; rw [fill_cells _ _ (HEN.out.trans rfl)]; refine Kd.R_append kSt (W := w3) (w0 := wz) wz.heap.size rfl (.tmp 79) (.tmp 84) 22 32 _ 56 rfl Try.underlying22 info32 (by decide) (by decide) (by decide) _ (out.take k) x (encSt x) (fun q => wz.heap.size ≤ q) (fun _ => False) rfl (by simp [Act.eval]) ⟨HX.out.1, rfl⟩ (fun _ hk => hk.elim) (fun k hk => Nat.le_trans HB3.out.size hk) HR3.out HB3.out HB3.out.size (by rw [HLK.out]; omega) ?_; intro v4 w4 hr4 hb4 hg4 hat4; have HR4 := Lib.hid hr4; have HB4 := Lib.hid hb4; clear hr4 hb4 hg4 hat4))
          clear hen
          have HL4 := Lib.hid (show (out.take k ++ [x]).length = k + 1 by rw [List.length_append, HLK.out]; rfl)
          go_upto_region 18 with (first | (at_builtin; refine Kd.R_append_rows kSt (Rr := fun x cs => x.Ok ∧ cs = encSt x) (w0 := wz) (W := w4) wz.heap.size rfl (.tmp 86) (.tmp 89) 22 32 _ 56 rfl Try.underlying22 info32 (by decide) (by decide) (by decide) _ (out.take k ++ [x]) (out.drop k) B6 n1 c1 (fun q => wz.heap.size ≤ q) (fun _ => False) rfl rfl HR4.out (Kd.C_below HCD.out HB4.out) (fun _ _ h => h) (fun _ hk => hk.elim) (fun k hk => Nat.le_trans HB4.out.size hk) HB4.out HB4.out.size (by rw [HL4.out]; omega) ?_; intro v5 w5 hr5 hb5 hg5 hat5; have HR5 := Lib.hid hr5; have HB5 := Lib.hid hb5; clear hr5 hb5 hg5 hat5))
          obtain ⟨A7, c7, hv7, hO7⟩ := OutAt.of_R HR5.out
          have HNEW := Lib.hid (show out.take k ++ [x] ++ out.drop k = (L.take (i + 1)).foldl ins [] by rw [HSN.out, ← HF.out, HPUT.out]; simp)
          have HNL := Lib.hid (show (out.take k ++ [x] ++ out.drop k).length ≤ i + 1 by rw [List.length_append, HL4.out, HLD.out, HN1.out]; omega)
          have HO7 := Lib.hid (hO7.lower (s' := w2.heap.size) (by have := HBz.out.size; omega))
          have HB7 := Lib.hid (HBz.out.trans (HB5.out.mono HBz.out.size))
          obtain ⟨O7, hO7e⟩ : ∃ O7, out.take k ++ [x] ++ out.drop k = O7 := ⟨_, rfl⟩
          rw [hO7e] at HNEW HNL HO7
          rw [hO7e] at hv7
          subst hv7
          clear hO7e hO7 HR5 HR4 HR3 HR0 hsl1 hsl2
          go_wp2_with fail
          go_roundw
          case rel => exact ⟨i + 1, c7, A7, O7, by omega, by go_num, rfl, HO7.out, HB7.out, HNEW.out, HNL.out⟩
          all_goals (simp only [RowKit.intOf]; omega)
    · have he : i = N := by omega
      subst he
      have HM := Lib.hid (show IsMerge (l ++ m) out by
        rw [HLM.out, HF.out, ← HN.out, List.take_length]
        exact fold_merge L)
      have HBB := Lib.hid (HB2.out.trans (HBr.out.mono HB2.out.size))
      go_wp2_with fail
      go_ret
      exact ⟨A6, c6, out, rfl, HM.out, HOr.out.1, HBB.out⟩
end Go.Proofs.Ytkjaffnplehhaaa.Rg
