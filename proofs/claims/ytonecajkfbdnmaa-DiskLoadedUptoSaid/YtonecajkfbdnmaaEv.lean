/- The walk of the law DiskSafe. -/
import Derived.Test.YtonecajkfbdnmaaEt
namespace Go.Proofs.Ytonecajkfbdnmaa.Dk
open Go.Lib Go.RowKit Go.ChangeMaps Go.Proofs.Ytonecajkfbdnmaa.Mp Go.Proofs.YtonecajkfbdnmaaW.PrintWords Go.Proofs.YtonecajkfbdnmaaW.PrintLast Go.Proofs.YtonecajkfbdnmaaW.PrintMore Go.Proofs.Ytonecajkfbdnmaa.PDiskRoom Go.Proofs.Ytonecajkfbdnmaa.Dw
set_option linter.unusedVariables false
set_option linter.unusedSimpArgs false

theorem opPre_few {o : S58} (h : OpPre o) : OpOk (fewM o) := by
  refine ⟨?_, ?_, h.name, h.to_, h.n⟩
  · show ints (toBy (o.f5.take 4096)) = o.f5.take 4096
    have e : ints (toBy (o.f5.take 4096)) = (ints (toBy o.f5)).take 4096 := by unfold ints toBy; rw [List.map_take, List.map_take]
    rw [e, h.bytes]
  · show (o.f5.take 4096).length ≤ _
    have := List.length_take_le 4096 o.f5
    omega
theorem few_op {l : List S58} (hl : ∀ o ∈ l, OpPre o) {o : S58} (h : o ∈ fewOps l) : OpOk o ∧ (1 ≤ o.f0 ∧ o.f0 ≤ 6) ∧ o.f5.length ≤ 4096 := by
  obtain ⟨h1, h2, p, hp, rfl⟩ := fewOps_mem h
  exact ⟨opPre_few (hl p hp), h1, h2⟩
/-- A disk with much room, on, without a plan to be full. -/
structure Wide (d : Dk) (B : Nat) : Prop where
  on : On d B
  pf : d.plan.from_ ≤ 0
  room : d.room = 67108864
theorem Wide.start : Wide (Dk.new 67108864) 0 := ⟨⟨new_inv _ (Nat.le_refl _), new_bd _ (Nat.le_refl _), rfl, Int.le_refl _⟩, Int.le_refl _, rfl⟩
theorem Wide.play {d : Dk} {i : Nat} (h : Wide d (i * 4100)) (o : POp) (hb : o.b.length ≤ 4096) : Wide (d.play o).1 ((i + 1) * 4100) := by
  have hc := play_calm d o
  have h1 := h.on.play o
  exact ⟨⟨h1.inv, h1.bd.mono (by omega), h1.off, h1.po⟩, by rw [hc.plan]; exact h.pf, by rw [hc.room]; exact h.room⟩
theorem R_keep {α : Type} {d : Kd α} {e : Nat} {own own' : Own} {w W : World} {base : Nat} {v : Value} {xs : List α} (h : Kd.R d e w base (fun k => base ≤ k) v xs) (ho : ∀ k, base ≤ k → own k = none) (hf : Fr own own' w W) : Kd.R d e W base (fun k => base ≤ k) v xs :=
  Kd.R_step h (fun k hk hlt => hf.block k hlt (ho k hk))
theorem Rep.above {own : Own} {w : World} {kd : Nat} {blk : Nat → Nat} {d : Dk} (h : Rep own w kd blk d) : ∀ k, w.heap.size ≤ k → own k = none := fun k hk => by
  cases e : own k with
  | none => rfl
  | some x => have := h.lt k x e; omega
theorem On.mono {d : Dk} {B C : Nat} (h : On d B) (hc : B ≤ C) : On d C := ⟨h.inv, h.bd.mono hc, h.off, h.po⟩
theorem imgFind_mem : ∀ (l : Img) (n : ByteArray) (b : By), imgFind l n = some b → (n, b) ∈ l
  | [], _, _, h => by cases h
  | x :: l, n, b, h => by
    rw [imgFind_cons] at h
    split at h
    · rename_i e
      obtain rfl := Option.some.inj h
      subst e
      simp
    · exact List.mem_cons_of_mem _ (imgFind_mem l n b h)
theorem begins_len {b a : By} (h : beginsB b a = true) : a.length ≤ b.length := by
  have h := of_decide_eq_true h
  have := congrArg List.length h
  rw [List.length_take] at this
  omega
theorem img_len {d : Dk} {B : Nat} (h : On d B) : ∀ y ∈ d.image, y.2.length ≤ B := fun y hy => by
  obtain ⟨x, hx, rfl⟩ := List.mem_map.1 hy
  exact h.bd.seen _ (h.inv.ok.lt x hx)
theorem img_64 {d : Dk} {B : Nat} (h : On d B) : d.image.length ≤ 64 := by
  unfold Dk.image; rw [List.length_map]; exact h.inv.ok.few
theorem crashF_length (d : Dk) : ∀ (m : AM) (r : List Int), (d.crashFiles m r).length = m.length
  | [], _ => rfl
  | (a, g) :: m, r => by
    show (d.crashFiles m (nextP r (d.file g).units.length).2).length + 1 = m.length + 1
    rw [crashF_length d m]
theorem crash_64 {d : Dk} {B : Nat} (h : On d B) (r : List Int) : (d.crash r).length ≤ 64 := by
  unfold Dk.crash
  rw [crashF_length]
  exact (h.inv.pre _).few
theorem Grow.crash_len {s d : Dk} {B : Nat} (hs : s.Inv) (hd : On d B) (h : Grow s d) (r : List Int) : ∀ y ∈ d.crash r, y.2.length ≤ B := fun y hy => by
  obtain ⟨b, h1, h2⟩ := h.second hs hd.inv r y hy
  exact Nat.le_trans (begins_len h2) (img_len hd _ (imgFind_mem _ _ _ h1))
theorem row_at {w : World} {base n : Nat} {ok : Nat → Prop} {v : Value} {xs : List Int} (h : Kd.R (Kd.int .i64) 3 w base ok v xs) (hb : ∃ b, v.ownBlock = some b ∧ n ≤ b) : ∃ g cap, v = .slice (some ⟨g, 0, none⟩) xs.length cap := by
  obtain ⟨b, hb, _⟩ := hb
  obtain ⟨A, c, rfl⟩ := Kd.R_slice h
  obtain ⟨inner, hown⟩ := Kd.R_own h
  rcases hown.2 with ⟨e, _⟩ | ⟨g, cap, cur, e, _⟩
  · rw [e] at hb; cases hb
  · injection e with e1 e2 e3
    exact ⟨g, c, by rw [e1]⟩
theorem set_rep (t N : Nat) (h : t < N) : (List.replicate t (-1 : Int) ++ List.replicate (N - t) 0).set t (-1) = List.replicate (t + 1) (-1) ++ List.replicate (N - (t + 1)) 0 := by
  obtain ⟨m, rfl⟩ : ∃ m, N = t + (m + 1) := ⟨N - t - 1, by omega⟩
  have h1 : t + (m + 1) - t = m + 1 := by omega
  have h2 : t + (m + 1) - (t + 1) = m := by omega
  rw [h1, h2, List.set_append_right _ _ (by simp), List.length_replicate, Nat.sub_self, List.replicate_succ, List.set_cons_zero, List.replicate_succ' (n := t)]
  simp
theorem zero_at {w : World} {base g N cap t : Nat} {ok : Nat → Prop} (h : Kd.R (Kd.int .i64) 3 w base ok (.slice (some ⟨g, 0, none⟩) N cap) (List.replicate t (-1) ++ List.replicate (N - t) 0)) (ht : t < N) : ∀ (j : Nat) (u : Value), [Value.int .i64 0][j]? = some u → w.cell? ⟨g, t * (Kd.int .i64).sz + j, none⟩ = some u := by
  intro j u hj
  have hl : (List.replicate t (-1 : Int) ++ List.replicate (N - t) 0).length = N := by simp; omega
  have hC := (Kd.R_reads' h).2.2
  obtain ⟨xs, hxs⟩ : ∃ xs, List.replicate t (-1 : Int) ++ List.replicate (N - t) 0 = xs := ⟨_, rfl⟩
  rw [hxs] at hC hl
  have hC' : Kd.C (Kd.int .i64) w (some ⟨g, 0, none⟩) xs.length xs := hC
  obtain ⟨ad, c, e, hcl, hK, hc⟩ := Kd.C_get hC' (0 : Int) (t : Int) (by omega) (by rw [hl]; omega)
  subst hxs
  obtain rfl := Option.some.inj e
  have hg : (List.replicate t (-1 : Int) ++ List.replicate (N - t) 0).getD (t : Int).toNat 0 = 0 := by
    rw [Int.toNat_natCast, List.getD_eq_getElem?_getD, List.getElem?_append_right (by simp), List.length_replicate, Nat.sub_self]
    cases hm : N - t with
    | zero => rfl
    | succ m => rfl
  rw [hg] at hK
  have hK' : c = [Value.int .i64 0] := hK
  subst hK'
  have h9 := hc j u hj
  rw [Int.toNat_natCast] at h9
  rw [← h9]
  congr 1
  unfold Addr.add
  split <;> simp_all
theorem allSafe_names {d : Dk} {B : Nat} (h : On d B) : d.allSafe.names = d.names := by
  obtain ⟨h1, h2⟩ := On.syncAll d.namesOf h (fun n hn => by
    obtain ⟨⟨a, f⟩, hx, rfl⟩ := List.mem_map.1 hn
    exact ⟨f, (mem_aget h.inv.ok.sn a f).1 hx⟩)
  unfold Dk.allSafe
  rw [syncNames_on h1]
  exact h2
abbrev safeN : ByteArray := ⟨#[115, 97, 102, 101]⟩
abbrev safeOp : S58 := ⟨1, 0, 0, safeN, ⟨#[]⟩, [98, 121, 116, 101, 115], ⟨0, 0, 0⟩, []⟩
theorem safeOp_ok : OpOk safeOp := ⟨rfl, by decide, by unfold big; decide, by unfold big; decide, by decide⟩
theorem fair_safe : fair safeN = true := by decide +kernel
theorem play_one {d : Dk} {o : S58} (h : o.f0 = 1) : d.play (opOf o) = d.append o.f3 (toBy o.f5) := by
  unfold Dk.play
  rw [show (opOf o).kind = 1 from h]; rfl
set_option maxRecDepth 100000 in
set_option maxHeartbeats 16000000 in
theorem diskSafe_walk (w0 : World) (A1 : Option Addr) (c1 : Nat) (l1 : List S58) (off : Int) (A2 : Option Addr) (c2 : Nat) (l2 : List Int) (A3 : Option Addr) (c3 : Nat) (l3 : List S58) (A4 : Option Addr) (c4 : Nat) (l4 : List Int)
    (hC1 : Kd.C k58 w0 A1 l1.length l1) (hl1 : l1.length ≤ 1000000000000000) (ho1 : ∀ o ∈ l1, OpPre o)
    (hC2 : Kd.C (Kd.int .i64) w0 A2 l2.length l2) (hlc2 : l2.length ≤ c2) (hp2 : ∀ x ∈ l2, -9223372036854775808 ≤ x ∧ x ≤ 9223372036854775807)
    (hC3 : Kd.C k58 w0 A3 l3.length l3) (hl3 : l3.length ≤ 1000000000000000) (ho3 : ∀ o ∈ l3, OpPre o) :
    Calls Try.prog 5 #[.agg #[.slice A1 l1.length c1, .int .i64 off, .slice A2 l2.length c2, .slice A3 l3.length c3, .slice A4 l4.length c4]] w0 fun e w' => e = .returned (.bool true) ∧ Below w0.heap.size w0 w' := by
  have HF1 := Lib.hid (fun w (hb : Below w0.heap.size w0 w) => few_walk w0 w hb A1 c1 l1 hC1 hl1)
  have HF3 := Lib.hid (fun w (hb : Below w0.heap.size w0 w) => few_walk w0 w hb A3 c3 l3 hC3 hl3)
  have HO1 := Lib.hid (fun (o : S58) (h : o ∈ fewOps l1) => few_op ho1 h)
  have HO3 := Lib.hid (fun (o : S58) (h : o ∈ fewOps l3) => few_op ho3 h)
  have HCR := Lib.hid (fun (own : Own) (w : World) (kd : Nat) (blk : Nat → Nat) (d : Dk) (h : Rep own w kd blk d) (B : Nat) (ho : On d B) (hB : B ≤ 1000000000) (hb : Below w0.heap.size w0 w) => crash_walk own w kd blk d h ho.inv B ho.bd hB w0 hb A2 c2 l2 hC2 hlc2 hp2)
  have HOW := Lib.hid open_walk
  clear hC1 hC2 hC3 ho1 ho3 hp2 hlc2
  go_enter Try.func5, Try.ntmps5
  go_upto_region 1 with (fail)
  obtain ⟨wb, hwb⟩ : ∃ wb, w0.alloc (.cells #[.slice A1 l1.length c1, .int .i64 off, .slice A2 l2.length c2, .slice A3 l3.length c3, .slice A4 l4.length c4] 65) = wb := ⟨_, rfl⟩
  obtain ⟨H0, hH0⟩ : ∃ H, w0.heap.size = H := ⟨_, rfl⟩
  have hbb : Below w0.heap.size w0 wb := hwb ▸ below_alloc (Below.refl _ _) _
  have hnb : wb.heap[H0]? = some (.cells #[.slice A1 l1.length c1, .int .i64 off, .slice A2 l2.length c2, .slice A3 l3.length c3, .slice A4 l4.length c4] 65 (0, 0)) := by rw [← hwb, ← hH0]; exact blk_new w0 _
  have hszb : H0 < wb.heap.size := by rw [← hwb, ← hH0]; simp
  rw [hwb, hH0]
  have n0 := blk_cell hnb 0
  simp at n0
  have HBB := Lib.hid hbb
  have HH0 := Lib.hid hH0
  have HNB := Lib.hid hnb
  clear hwb hbb hnb hH0
  go_wp2_with fail
  refine (HOW.out _).mono ?_
  rintro e w2 ⟨kd, own, blk, rfl, hr2, hb2, hn2⟩
  have HR2 := Lib.hid hr2
  have HB2 := Lib.hid hb2
  have n0b := pw_cell_below hb2 n0
  have hb02 : Below w0.heap.size w0 w2 := HBB.out.trans (hb2.mono HBB.out.size)
  have hown0 : ∀ k, k < wb.heap.size → own k = none := fun k hk => by
    cases e : own k with
    | none => rfl
    | some x => have h9 := hn2 k x e; omega
  have HOWN0 := Lib.hid hown0
  have HFW := Lib.hid (HF1.out w2 hb02)
  have HB02 := Lib.hid hb02
  clear hr2 hb2 hn2 n0 hown0 hb02
  unfold ptr
  go_wp2_with (first | (go_at_call 24; refine HFW.out.mono ?_; rintro e w3 ⟨v6, rfl, hr3, hb3⟩; obtain ⟨A6, c6, rfl⟩ := Kd.R_slice hr3; have HR3 := Lib.hid hr3; have HB3 := Lib.hid hb3; clear hr3 hb3))
  obtain ⟨ops, hops⟩ : ∃ ops, fewOps l1 = ops := ⟨_, rfl⟩
  have hlen := fewOps_len l1
  rw [hops] at HR3 HO1 hlen ⊢
  have HRP := Lib.hid (HR2.out.below HB3.out)
  have HKEEP := Lib.hid (fun (own' : Own) (W : World) (hf : Fr own own' w3 W) => R_keep HR3.out HR2.out.above hf)
  have HB03 := Lib.hid (HB02.out.trans (HB3.out.mono HB02.out.size))
  have HSZ := Lib.hid (Nat.le_trans HB2.out.size HB3.out.size)
  clear hops n0b
  have HBOX := Lib.hid (fun (own' : Own) (W : World) (hf : Fr own own' w3 W) => (hf.block H0 (Nat.lt_of_lt_of_le hszb HSZ.out) (HOWN0.out H0 hszb)).trans (blk_below (blk_below HNB.out HB2.out) HB3.out))
  have HAT := Lib.hid (fun (own' : Own) (W : World) (hf : Fr own own' w3 W) => (⟨HB03.out.trans (hf.below HB03.out.size (fun k hk => HOWN0.out k (Nat.lt_of_lt_of_le hk HBB.out.size))), fun k hk => hf.new k (Nat.lt_of_lt_of_le hk HB03.out.size) (HOWN0.out k (Nat.lt_of_lt_of_le hk HBB.out.size))⟩ : Below w0.heap.size w0 W ∧ ∀ k, k < w0.heap.size → own' k = none))
  go_loopw [5] (fun v5 wr => ∃ (i : Nat) (d : Dk) (own1 : Own) (blk1 : Nat → Nat), i ≤ ops.length ∧ v5 = .int .i64 i ∧ Wide d (i * 4100) ∧ Rep own1 wr kd blk1 d ∧ Fr own own1 w3 wr) (fun v5 _ => ops.length - (RowKit.intOf v5).toNat)
  case atStart => exact ⟨0, Dk.new 67108864, own, blk, Nat.zero_le _, rfl, Wide.start, HRP.out, Fr.refl _ _⟩
  case round =>
    obtain ⟨i, d, own1, blk1, hi, rfl, hI, hr, hf⟩ := hrel
    have HI := Lib.hid hI
    have HR := Lib.hid hr
    have HFI := Lib.hid hf
    clear hI hr hf
    by_cases hlt : i < ops.length
    · have qi0 : (0 : Int) ≤ (i : Int) := by omega
      have qi1 : (i : Int) < (ops.length : Int) := by omega
      obtain ⟨ad, A5, c5, A9, c9, hA6, g0, g1, g2, g3, g4, g5, g6, g7, g8, g9, l5, C5, l9, C9⟩ := op_at (Kd.R_reads' (HKEEP.out own1 wr HFI.out)).2.2 i hlt
      obtain ⟨hook, hk16, hlen5⟩ := HO1.out ops[i] (List.getElem_mem hlt)
      obtain ⟨o, ho⟩ : ∃ o, ops[i] = o := ⟨_, rfl⟩
      rw [ho] at g0 g1 g2 g3 g4 g5 g6 g7 g8 g9 l5 C5 l9 C9 hook hk16 hlen5
      subst hA6
      obtain ⟨hb0r, hown1⟩ := HAT.out own1 wr HFI.out
      have HPL := Lib.hid (play_op own1 wr kd blk1 d HR.out HI.out.on.inv.ok _ HI.out.on.bd (by omega) o hook A5 c5 A9 c9 (Out.of_in C5 hb0r hown1) hk16)
      unfold opV ptr at HPL
      clear ho C5 C9 hook hk16 l9 l5 hb0r hown1
      go_wp2_with (first | (go_at_call 26; refine HPL.out.mono ?_; rintro e w6 ⟨rfl, own2, blk2, hr6, hf6⟩; have HR6 := Lib.hid hr6; have HF6 := Lib.hid hf6; clear hr6 hf6))
      go_roundw
      case rel => exact ⟨i + 1, _, own2, blk2, by omega, by go_num, HI.out.play (opOf o) (by show (toBy o.f5).length ≤ 4096; rw [toBy_len]; omega), HR6.out, HFI.out.trans HF6.out⟩
      case measure => simp [RowKit.intOf]; omega
    · have hib : i = ops.length := by omega
      have kc := fun (w : World) (C : Array Value) (n c : Nat) => Lib.run_convert_bytes_const (P := Try.prog) w 26 5 C n c Try.underlying26 Try.underlying5
      have hi200 : i ≤ 200 := by omega
      have qi1 : ¬ (i : Int) < (ops.length : Int) := by omega
      have hbl : Below wr.heap.size wr (wr.alloc (.cells #[.int .u8 98, .int .u8 121, .int .u8 116, .int .u8 101, .int .u8 115] 5 (5, 6))) := below_alloc (Below.refl _ _) _
      have HBL := Lib.hid hbl
      have hpl : Calls Try.prog 26 #[.pointer (some ⟨kd, 0, none⟩), .agg #[.int .i64 1, .int .i64 0, .int .i64 0, .string ⟨#[115, 97, 102, 101]⟩, .string ⟨#[]⟩, .slice (some ⟨wr.heap.size, 0, none⟩) 5 5, .int .i64 0, .int .i64 0, .int .i64 0, .slice none 0 0]] (wr.alloc (.cells #[.int .u8 98, .int .u8 121, .int .u8 116, .int .u8 101, .int .u8 115] 5 (5, 6))) (Ends own1 (wr.alloc (.cells #[.int .u8 98, .int .u8 121, .int .u8 116, .int .u8 101, .int .u8 115] 5 (5, 6))) kd (d.play (opOf safeOp))) :=
        play_op own1 _ kd blk1 d (HR.out.below hbl) HI.out.on.inv.ok _ HI.out.on.bd (by omega) safeOp safeOp_ok (some ⟨wr.heap.size, 0, none⟩) 5 none 0 (Out.new HR.out.lt rfl (by decide)) (by decide)
      have HPL := Lib.hid hpl
      have hne : (d.play (opOf safeOp)).1.names ≠ [] := by rw [play_one rfl]; exact safe_there HI.out.on HI.out.pf HI.out.room (by omega) fair_safe (by decide)
      have hon6 : On (d.play (opOf safeOp)).1 900000 := (HI.out.play (opOf safeOp) (by decide)).on.mono (by omega)
      obtain ⟨d6, hd6⟩ : ∃ d6, (d.play (opOf safeOp)).1 = d6 := ⟨_, rfl⟩
      rw [hd6] at hne hon6
      have HNE := Lib.hid hne
      have HON6 := Lib.hid hon6
      have HD6 := Lib.hid hd6
      clear hbl hpl hne hon6 hd6 hib
      go_upto_region 10 with (first | (go_at_call 26; refine HPL.out.mono ?_; rintro e w6 ⟨rfl, own2, blk2, hr6, hf6⟩; rw [HD6.out] at hr6; have HR6 := Lib.hid hr6; have HF6 := Lib.hid ((HFI.out.trans (Fr.of_below HBL.out)).trans hf6); clear hr6 hf6))
      have HAS := Lib.hid (allSafe_walk own2 w6 kd blk2 d6 HR6.out _ HON6.out (by omega))
      unfold ptr at HAS
      clear HPL HBL HRP HR kc
      obtain ⟨s, hs⟩ : ∃ s, d6.allSafe = s := ⟨_, rfl⟩
      have hon7 : On s 900200 := hs ▸ HON6.out.allSafe
      have hgr7 : Grow s s := hs ▸ Grow.start HON6.out
      have hnm7 : s.names ≠ [] := by
        rw [← hs, allSafe_names HON6.out]; exact HNE.out
      rw [hs] at HAS
      have HON7 := Lib.hid hon7
      have HGR7 := Lib.hid hgr7
      have HNM7 := Lib.hid hnm7
      clear hs hon7 hgr7 hnm7
      go_upto_region 12 with (first | (go_at_call 30; refine HAS.out.mono ?_; rintro e w7 ⟨rfl, own3, blk3, hr7, hf7⟩; have HR7 := Lib.hid hr7; have HF7 := Lib.hid (HF6.out.trans hf7); clear hr7 hf7))
      have HSN := Lib.hid (seen_walk own3 w7 kd blk3 s HR7.out HON7.out.inv.ok HON7.out.inv.fa _ HON7.out.bd (by omega) HON7.out.off)
      unfold ptr at HSN
      obtain ⟨I, hI⟩ : ∃ I, s.image = I := ⟨_, rfl⟩
      have HIM := Lib.hid hI
      rw [hI] at HSN
      clear hI HAS HNE HON6 HD6 HR6
      go_upto_region 13 with (first | (go_at_call 25; refine HSN.out.mono ?_; rintro e w8 ⟨v8, rfl, hr8, hb8⟩; obtain ⟨A8, c8, rfl⟩ := Kd.R_slice hr8; rw [List.length_map] at hr8; have HR8 := Lib.hid hr8; have HB8 := Lib.hid hb8; clear hr8 hb8))
      have HF8 := Lib.hid (HF7.out.trans (Fr.of_below HB8.out))
      have HR8' := Lib.hid (HR7.out.below HB8.out)
      have HKI := Lib.hid (fun (own' : Own) (W : World) (hf : Fr own3 own' w8 W) => R_keep HR8.out HR7.out.above hf)
      have n3 := blk_cell (HBOX.out own3 w8 HF8.out) 3
      simp at n3
      have HFW3 := Lib.hid (HF3.out w8 (HAT.out own3 w8 HF8.out).1)
      clear HSN HR8 HR7
      go_wp2_with (first | (go_at_call 24; refine HFW3.out.mono ?_; rintro e w9 ⟨v9, rfl, hr9, hb9⟩; obtain ⟨A9, c9, rfl⟩ := Kd.R_slice hr9; have HR9 := Lib.hid hr9; have HB9 := Lib.hid hb9; clear hr9 hb9))
      obtain ⟨more, hmore⟩ : ∃ more, fewOps l3 = more := ⟨_, rfl⟩
      have hlenm := fewOps_len l3
      rw [hmore] at HR9 HO3 hlenm ⊢
      have HRP := Lib.hid (HR8'.out.below HB9.out)
      have HKM := Lib.hid (fun (own' : Own) (W : World) (hf : Fr own3 own' w9 W) => R_keep HR9.out HR8'.out.above hf)
      have HF9 := Lib.hid (HF8.out.trans (Fr.of_below HB9.out))
      have HF89 := Lib.hid (Fr.of_below (own := own3) HB9.out)
      clear hmore n3 HR9 HR8' HB9 HFW3
      go_loopw [8] (fun v8 wr => ∃ (i : Nat) (d : Dk) (own1 : Own) (blk1 : Nat → Nat), i ≤ more.length ∧ v8 = .int .i64 i ∧ On d (1000000 + i * 4100) ∧ Grow s d ∧ Rep own1 wr kd blk1 d ∧ Fr own3 own1 w9 wr) (fun v8 _ => more.length - (RowKit.intOf v8).toNat)
      case atStart => exact ⟨0, s, own3, blk3, Nat.zero_le _, rfl, HON7.out.mono (by omega), HGR7.out, HRP.out, Fr.refl _ _⟩
      case round =>
        obtain ⟨i, d, own1, blk1, hi, rfl, hI, hG, hr, hf⟩ := hrel
        have HI := Lib.hid hI
        have HG := Lib.hid hG
        have HR := Lib.hid hr
        have HFI := Lib.hid hf
        have HFA := Lib.hid (HF9.out.trans hf)
        clear hI hG hr hf
        by_cases hlt : i < more.length
        · have qi0 : (0 : Int) ≤ (i : Int) := by omega
          have qi2 : (i : Int) < (more.length : Int) := by omega
          obtain ⟨ad, A5, c5, A9, c9, hA6, g0, g1, g2, g3, g4, g5, g6, g7, g8, g9, l5, C5, l9, C9⟩ := op_at (Kd.R_reads' (HKM.out own1 wr HFI.out)).2.2 i hlt
          obtain ⟨hook, hk16, hlen5⟩ := HO3.out more[i] (List.getElem_mem hlt)
          obtain ⟨o, ho⟩ : ∃ o, more[i] = o := ⟨_, rfl⟩
          rw [ho] at g0 g1 g2 g3 g4 g5 g6 g7 g8 g9 l5 C5 l9 C9 hook hk16 hlen5
          subst hA6
          obtain ⟨hb0r, hown1⟩ := HAT.out own1 wr HFA.out
          have HPL := Lib.hid (play_op own1 wr kd blk1 d HR.out HI.out.inv.ok _ HI.out.bd (by omega) o hook A5 c5 A9 c9 (Out.of_in C5 hb0r hown1) hk16)
          unfold opV ptr at HPL
          clear ho C5 C9 hook hk16 l9 l5 hb0r hown1
          by_cases h1 : o.f0 = 1
          · rw [h1] at g0 HPL
            have hpl := play_one (d := d) h1
            have hon2 := (HI.out.play (opOf o)).mono (C := 1000000 + (i + 1) * 4100) (by
              have h9 : (opOf o).b.length = o.f5.length := toBy_len o.f5
              omega)
            rw [hpl] at hon2 HPL
            have hg2 := HG.out.append HON7.out.inv HI.out.inv o.f3 (toBy o.f5)
            clear hpl h1
            go_wp2_with (first | (go_at_call 26; refine HPL.out.mono ?_; rintro e w10 ⟨rfl, own2, blk2, hr6, hf6⟩; have HR6 := Lib.hid hr6; have HF6 := Lib.hid hf6; clear hr6 hf6))
            go_roundw
            case rel => exact ⟨i + 1, _, own2, blk2, by omega, by go_num, hon2, hg2, HR6.out, HFI.out.trans HF6.out⟩
            case measure => simp [RowKit.intOf]; omega
          · go_wp2_with fail
            go_roundw
            case rel => exact ⟨i + 1, d, own1, blk1, by omega, by go_num, HI.out.mono (by omega), HG.out, HR.out, HFI.out⟩
            case measure => simp [RowKit.intOf]; omega
        · have qi2 : ¬ (i : Int) < (more.length : Int) := by omega
          have hi3 : i ≤ 200 := by omega
          have hon10 : On d 2000000 := HI.out.mono (by omega)
          have HON := Lib.hid hon10
          have HSN := Lib.hid (fun w' (hb : Below wr.heap.size wr w') => seen_walk own1 w' kd blk1 d (HR.out.below hb) HON.out.inv.ok HON.out.inv.fa _ HON.out.bd (by omega) HON.out.off)
          unfold ptr at HSN
          obtain ⟨J, hJ⟩ : ∃ J, d.image = J := ⟨_, rfl⟩
          have HJM := Lib.hid hJ
          rw [hJ] at HSN
          clear hJ
          obtain ⟨L, hL⟩ : ∃ L, d.crash l2 = L := ⟨_, rfl⟩
          have hfirst := HG.out.first HON7.out.inv HON.out.inv l2
          have hsecond := HG.out.second HON7.out.inv HON.out.inv l2
          have hlenL := HG.out.crash_len HON7.out.inv HON.out l2
          have hlenJ := img_len HON.out
          have hlenI := img_len HON7.out
          have hI64 := img_64 HON7.out
          have hJ64 := img_64 HON.out
          have hL64 := crash_64 HON.out l2
          have hIpos : 0 < I.length := by
            rw [← HIM.out]; unfold Dk.image; rw [List.length_map]
            exact List.length_pos_iff.2 HNM7.out
          rw [hL, HIM.out] at hfirst
          rw [hL, HJM.out] at hsecond
          rw [hL] at hlenL hL64
          rw [HJM.out] at hlenJ hJ64
          rw [HIM.out] at hlenI hI64
          have HFIRST := Lib.hid hfirst
          have HSECOND := Lib.hid hsecond
          have HLL := Lib.hid hlenL
          have HLJ := Lib.hid hlenJ
          have HLI := Lib.hid hlenI
          have hCI := R_img (HKI.out own1 wr (HF89.out.trans HFI.out))
          have HCI := Lib.hid hCI
          have n2 := blk_cell (HBOX.out own1 wr HFA.out) 2
          simp at n2
          have hci := hCI.2
          clear hfirst hsecond hlenL hlenJ hlenI hCI hi hlt
          obtain ⟨wo, hwo⟩ : ∃ wo : World, wo = wr := ⟨_, rfl⟩
          subst hwo
          go_upto_region 20 with (first | (go_at_call 25; refine (HSN.out _ (Below.refl _ _)).mono ?_; rintro e w11 ⟨v11, rfl, hr11, hb11⟩; obtain ⟨A11, c11, rfl⟩ := Kd.R_slice hr11; rw [List.length_map] at hr11; have HR11 := Lib.hid hr11; have HB11 := Lib.hid hb11; clear hr11 hb11))
          have n2b := pw_cell_below HB11.out n2
          have HCRW := Lib.hid (HCR.out own1 w11 kd blk1 d (HR.out.below HB11.out) 2000000 HON.out (by omega) (HAT.out own1 w11 (HFA.out.trans (Fr.of_below HB11.out))).1)
          rw [hL] at HCRW
          unfold ptr at HCRW
          clear n2 hL
          go_wp2_with (first | (go_at_call 21; refine HCRW.out.mono ?_; rintro e w12 ⟨v12, rfl, hr12, hb12⟩; obtain ⟨A12, c12, rfl⟩ := Kd.R_slice hr12; rw [List.length_map] at hr12; have HR12 := Lib.hid hr12; have HB12 := Lib.hid hb12; clear hr12 hb12))
          have HB12' := Lib.hid (HB11.out.trans (HB12.out.mono HB11.out.size))
          have h9 := HCI.out
          have HCI12 := Lib.hid (Kd.C_below h9.1 HB12'.out)
          have hj9 := R_img HR11.out
          have HCJ12 := Lib.hid (Kd.C_below hj9.1 HB12.out)
          have hcj := hj9.2
          have hl9 := R_img HR12.out
          have HCL12 := Lib.hid hl9.1
          have hcl := hl9.2
          clear h9 hj9 hl9 n2b HCRW HR11 HR12
          go_loopw [11] (fun v11 wr => ∃ k : Nat, k ≤ I.length ∧ v11 = .int .i64 k ∧ Below w12.heap.size w12 wr) (fun v11 _ => I.length - (RowKit.intOf v11).toNat)
          case atStart => exact ⟨0, Nat.zero_le _, rfl, Below.refl _ _⟩
          case round =>
            obtain ⟨k, hk, rfl, hb⟩ := hrel
            have HB := Lib.hid hb
            by_cases hkl : k < I.length
            · have qk0 : (0 : Int) ≤ (k : Int) := by omega
              have qk1 : (k : Int) < (I.length : Int) := by omega
              obtain ⟨ad, A1', c1', hA8, g0, g1, g2, g3⟩ := img_at (Kd.C_below HCI12.out hb) k hkl
              obtain ⟨b, hb1, hb2⟩ := HFIRST.out I[k] (List.getElem_mem hkl)
              have hbl := HLL.out _ (imgFind_mem _ _ _ hb1)
              have hil := HLI.out _ (List.getElem_mem hkl)
              have HFD := Lib.hid (imgfind_walk L I[k].1 A12 c12 wr (Kd.C_below HCL12.out hb) (by omega))
              rw [hb1] at HFD
              obtain ⟨x, hx⟩ : ∃ x, I[k] = x := ⟨_, rfl⟩
              rw [hx] at g0 g1 g2 g3 hb2 hil HFD
              obtain ⟨xn, xb⟩ := x
              simp only [Option.getD_some, Option.isSome_some] at g0 g1 g2 g3 hb2 hil HFD
              subst hA8
              have HG3 := Lib.hid g3
              have HB2 := Lib.hid hb2
              clear g3 hb2 hx hb1 hb
              go_upto_region 25 with (first | (go_at_call 27; refine HFD.out.mono ?_; rintro e wr ⟨A13, c13, rfl, hl13, hc13, rfl⟩; have HC13 := Lib.hid hc13; clear hc13))
              have HBG := Lib.hid (begins_walk b xb A1' A13 c1' c13 wr (by have h8 := HC13.out; rw [ints_length] at h8; exact h8) hl13 (by have h8 := HG3.out; rw [ints_length] at h8; exact h8) g2 (by omega))
              rw [HB2.out] at HBG
              go_wp2_with (first | (go_at_call 31; refine HBG.out.mono ?_; rintro e w13 ⟨rfl, m13, hw13⟩; have HB13 := Lib.hid (hw13 ▸ below_drewN' _ m13); clear hw13))
              go_roundw
              case rel => exact ⟨k + 1, by omega, by go_num, HB.out.trans (HB13.out.mono HB.out.size)⟩
              case measure => simp [RowKit.intOf]; omega
            · have qk1 : ¬ (k : Int) < (I.length : Int) := by omega
              clear hb
              obtain ⟨wp, hwp⟩ : ∃ wp : World, wp = wr := ⟨_, rfl⟩
              subst hwp
              go_wp2_with fail
              go_loopw [14] (fun v14 wr => ∃ j : Nat, j ≤ L.length ∧ v14 = .int .i64 j ∧ Below w12.heap.size w12 wr) (fun v14 _ => L.length - (RowKit.intOf v14).toNat)
              case atStart => exact ⟨0, Nat.zero_le _, rfl, HB.out⟩
              case round =>
                obtain ⟨j, hj, rfl, hb⟩ := hrel
                have HB := Lib.hid hb
                by_cases hjl : j < L.length
                · have qj0 : (0 : Int) ≤ (j : Int) := by omega
                  have qj1 : (j : Int) < (L.length : Int) := by omega
                  obtain ⟨ad, A1', c1', hA8, g0, g1, g2, g3⟩ := img_at (Kd.C_below HCL12.out hb) j hjl
                  obtain ⟨b, hb1, hb2⟩ := HSECOND.out L[j] (List.getElem_mem hjl)
                  have hbl := HLJ.out _ (imgFind_mem _ _ _ hb1)
                  have hil := HLL.out _ (List.getElem_mem hjl)
                  have HFD := Lib.hid (imgfind_walk J L[j].1 A11 c11 wr (Kd.C_below HCJ12.out hb) (by omega))
                  rw [hb1] at HFD
                  obtain ⟨x, hx⟩ : ∃ x, L[j] = x := ⟨_, rfl⟩
                  rw [hx] at g0 g1 g2 g3 hb2 hil HFD
                  obtain ⟨xn, xb⟩ := x
                  simp only [Option.getD_some, Option.isSome_some] at g0 g1 g2 g3 hb2 hil HFD
                  subst hA8
                  have HG3 := Lib.hid g3
                  have HB2 := Lib.hid hb2
                  clear g3 hb2 hx hb1 hb
                  go_upto_region 31 with (first | (go_at_call 27; refine HFD.out.mono ?_; rintro e wr ⟨A13, c13, rfl, hl13, hc13, rfl⟩; have HC13 := Lib.hid hc13; clear hc13))
                  have HBG := Lib.hid (begins_walk b xb A1' A13 c1' c13 wr (by have h8 := HC13.out; rw [ints_length] at h8; exact h8) hl13 (by have h8 := HG3.out; rw [ints_length] at h8; exact h8) g2 (by omega))
                  rw [HB2.out] at HBG
                  go_wp2_with (first | (go_at_call 31; refine HBG.out.mono ?_; rintro e w13 ⟨rfl, m13, hw13⟩; have HB13 := Lib.hid (hw13 ▸ below_drewN' _ m13); clear hw13))
                  go_roundw
                  case rel => exact ⟨j + 1, by omega, by go_num, HB.out.trans (HB13.out.mono HB.out.size)⟩
                  case measure => simp [RowKit.intOf]; omega
                · have qj1 : ¬ (j : Int) < (L.length : Int) := by omega
                  clear hb
                  obtain ⟨wq, hwq⟩ : ∃ wq : World, wq = wr := ⟨_, rfl⟩
                  subst hwq
                  have hJb : J.length < 1000 := by omega
                  go_upto_region 33 with (fail)
                  clear hl1 hl3 hlen hlenm hi200 hi3 qj1 qk1 hjl hkl hk hj
                  go_upto_region 34 with (first | (at_make; go_loud (refine Kd.R_make (Kd.int .i64) (w0 := wq) wq.heap.size 3 rfl rfl 23 (.tmp 132) (.tmp 132) rfl ((J.length : Int) + 1) rfl rfl Try.underlying23 (.int .i64 0) 8 info3 rfl (by decide) (by decide) (0 : Int) (okp := fun _ => False) (ok := fun k => wq.heap.size ≤ k) rfl (fun _ hk => hk.elim) (Nat.le_refl _) (by omega) (by omega) (Below.refl _ _) (Nat.le_refl _) ?_; intro v17 w17 hr17 hb17 hg17 hv17; have HR17 := Lib.hid hr17; have HB17 := Lib.hid hb17; have HV17 := Lib.hid hv17; clear hr17 hb17 hv17 hg17)))
                  obtain ⟨g, cap, rfl⟩ := row_at HR17.out HV17.out
                  obtain ⟨N, hN⟩ : ∃ N : Nat, J.length + 1 = N := ⟨_, rfl⟩
                  have hN2 : ((J.length : Int) + 1).toNat = N := by omega
                  have hNb : N ≤ 1000 := by omega
                  have HNN := Lib.hid hN
                  rw [hN2, List.length_replicate] at HR17 ⊢
                  clear hJb hN2 hN
                  go_wp2_with fail
                  go_loopw [18] (fun v18 wr => ∃ t : Nat, t ≤ N ∧ v18 = .int .i64 t ∧ Kd.R (Kd.int .i64) 3 wr wq.heap.size (fun k => wq.heap.size ≤ k) (.slice (some ⟨g, 0, none⟩) N cap) (List.replicate t (-1) ++ List.replicate (N - t) 0) ∧ Below wq.heap.size wq wr) (fun v18 _ => N - (RowKit.intOf v18).toNat)
                  case atStart => exact ⟨0, Nat.zero_le _, rfl, HR17.out, HB17.out⟩
                  case round =>
                    obtain ⟨t, ht, rfl, hr, hb⟩ := hrel
                    have HRT := Lib.hid hr
                    have HBT := Lib.hid hb
                    by_cases htl : t < N
                    · have qt0 : (0 : Int) ≤ (t : Int) := by omega
                      have qt1 : (t : Int) < (N : Int) := by omega
                      have hcell := zero_at hr htl
                      clear hr hb
                      go_wp2_with (first | (refine gate_ (.store 3 (.tmp 142) (.const (.int .i64 (-1)))) rfl ?_; refine Kd.R_store (Kd.int .i64) (w0 := wq) wq.heap.size rfl rfl 3 (.tmp 142) (.const (.int .i64 (-1))) rfl 3 (t : Int) 0 (List.replicate t (-1) ++ List.replicate (N - t) 0) (-1) (.int .i64 (-1)) [.int .i64 (-1)] [.int .i64 0] (fun k => wq.heap.size ≤ k) (fun _ => False) (g := g) (o' := t) rfl (by rw [Int.toNat_natCast]; exact (Nat.mul_one t).symm) rfl rfl (by kernel_rfl) (fun q hq => by rw [List.mem_singleton.1 hq]; rfl) HRT.out (by omega) (by omega) rfl (fun j u hj => by rw [Int.toNat_natCast]; exact hcell j u hj) (by decide) rfl (fun _ hk => hk.elim) HBT.out ?_; intro w19 hr19 hb19 hg19; have HR19 := Lib.hid hr19; have HB19 := Lib.hid hb19; clear hr19 hb19 hg19))
                      go_roundw
                      case rel => exact ⟨t + 1, by omega, by go_num, by have h9 := HR19.out; rw [Int.toNat_natCast, set_rep t N htl] at h9; exact h9, HB19.out⟩
                      case measure => simp [RowKit.intOf]; omega
                    · have htN : t = N := by omega
                      rw [htN, Nat.sub_self, List.replicate_zero, List.append_nil] at hr
                      have qt1 : ¬ (t : Int) < (N : Int) := by omega
                      have hrr := Kd.R_reads' hr
                      rw [List.length_replicate] at hrr
                      have HCA := Lib.hid hrr.2.2
                      have hcap := hrr.2.1
                      have HCAP := Lib.hid hcap
                      obtain ⟨wz, hwz⟩ : ∃ wz : World, wz = wr := ⟨_, rfl⟩
                      subst hwz
                      have hb1 := HB12'.out.trans ((HB.out.trans (hb.mono HB.out.size)).mono HB12'.out.size)
                      have HBO := Lib.hid hb1
                      have hb2 := HB.out.trans (hb.mono HB.out.size)
                      have HCIz := Lib.hid (Kd.C_below HCI12.out hb2)
                      have HCJz := Lib.hid (Kd.C_below HCJ12.out hb2)
                      have HBZ := Lib.hid (Below.refl wz.heap.size wz)
                      have hcr0 : d.crash [] = I := by rw [HG.out.none_ HON7.out.inv HON.out.inv]; exact HIM.out
                      have hcr1 : d.crash (List.replicate N (-1)) = J := by rw [← HNN.out, ← HJM.out]; exact crash_full HON.out.inv
                      have HC0 := Lib.hid (fun W (hb : Below wz.heap.size wz W) => crash_walk own1 W kd blk1 d (HR.out.below (HBO.out.trans (hb.mono HBO.out.size))) HON.out.inv 2000000 HON.out.bd (by omega) W (Below.refl _ _) none 0 [] (Kd.C_nil _ _) (Nat.le_refl _) (by simp))
                      have HC1 := Lib.hid (fun W (hb : Below wz.heap.size wz W) => crash_walk own1 W kd blk1 d (HR.out.below (HBO.out.trans (hb.mono HBO.out.size))) HON.out.inv 2000000 HON.out.bd (by omega) wz hb (some ⟨g, 0, none⟩) cap (List.replicate N (-1)) (by rw [List.length_replicate]; exact HCA.out) (by rw [List.length_replicate]; exact HCAP.out) (fun x hx => by rw [List.eq_of_mem_replicate hx]; omega))
                      rw [hcr0] at HC0
                      rw [hcr1] at HC1
                      simp only [List.length_replicate] at HC1
                      simp only [List.length_nil] at HC0
                      unfold ptr at HC0 HC1
                      have HSZ2 := Lib.hid (fun W (hb : Below wz.heap.size wz W) => HSN.out W (HBO.out.trans (hb.mono HBO.out.size)))
                      have HI1 := Lib.hid (fun W A c (hA : Kd.C k28 W A I.length (I.map encF) ∧ I.length ≤ c) (hb : Below wz.heap.size wz W) => image_same I A A8 c c8 W hA ⟨Kd.C_below HCIz.out hb, hci⟩ (by omega) (fun x hx => Nat.le_trans (HLI.out x hx) (by omega)))
                      have HJ1 := Lib.hid (fun W A c (hA : Kd.C k28 W A J.length (J.map encF) ∧ J.length ≤ c) (hb : Below wz.heap.size wz W) => image_same J A A11 c c11 W hA ⟨Kd.C_below HCJz.out hb, hcj⟩ (by omega) (fun x hx => Nat.le_trans (HLJ.out x hx) (by omega)))
                      have qI : (0 : Int) < (I.length : Int) := by omega
                      have hIne : I ≠ [] := List.length_pos_iff.1 hIpos
                      have hIne2 : ¬ I = [] := hIne
                      have hIpos2 : 0 < I.length := hIpos
                      have hb0 := (HAT.out own1 wo HFA.out).1
                      have HB0 := Lib.hid (hb0.trans (HBO.out.mono hb0.size))
                      clear hrr hcap hb1 hb2 hcr0 hcr1 hb0 hr hb hci hcj hcl hI64 hJ64 hL64 hNb hIpos htl ht htN hszb
                      go_upto_region 38 with (fail)
                      clear qt1
                      go_wp2_with (first | (go_at_call 21; refine (HC0.out _ HBZ.out).mono ?_; rintro e wx ⟨vx, rfl, hrx, hbx⟩; obtain ⟨Ax, cx, rfl⟩ := Kd.R_slice hrx; rw [List.length_map] at hrx; have HRX := Lib.hid (R_img hrx); have HBZ := Lib.hid (HBZ.out.trans (hbx.mono HBZ.out.size)); clear hrx hbx))
                      go_wp2_with (first | (go_at_call 20; refine (HI1.out _ _ _ HRX.out HBZ.out).mono ?_; rintro e wy ⟨rfl, hby⟩; have HBZ := Lib.hid (HBZ.out.trans (hby.mono HBZ.out.size)); clear hby))
                      go_wp2_with (first | (go_at_call 21; refine (HC1.out _ HBZ.out).mono ?_; rintro e wx ⟨vx, rfl, hrx, hbx⟩; obtain ⟨Ax, cx, rfl⟩ := Kd.R_slice hrx; rw [List.length_map] at hrx; have HRX := Lib.hid (R_img hrx); have HBZ := Lib.hid (HBZ.out.trans (hbx.mono HBZ.out.size)); clear hrx hbx))
                      go_wp2_with (first | (go_at_call 20; refine (HJ1.out _ _ _ HRX.out HBZ.out).mono ?_; rintro e wy ⟨rfl, hby⟩; have HBZ := Lib.hid (HBZ.out.trans (hby.mono HBZ.out.size)); clear hby))
                      go_wp2_with (first | (go_at_call 25; refine (HSZ2.out _ HBZ.out).mono ?_; rintro e wx ⟨vx, rfl, hrx, hbx⟩; obtain ⟨Ax, cx, rfl⟩ := Kd.R_slice hrx; rw [List.length_map] at hrx; have HRX := Lib.hid (R_img hrx); have HBZ := Lib.hid (HBZ.out.trans (hbx.mono HBZ.out.size)); clear hrx hbx))
                      go_wp2_with (first | (go_at_call 20; refine (HJ1.out _ _ _ HRX.out HBZ.out).mono ?_; rintro e wy ⟨rfl, hby⟩; have HBZ := Lib.hid (HBZ.out.trans (hby.mono HBZ.out.size)); clear hby))
                      go_ret
                      exact ⟨rfl, HB0.out.trans (HBZ.out.mono HB0.out.size)⟩
end Go.Proofs.Ytonecajkfbdnmaa.Dk

namespace Go.Proofs.Ytonecajkfbdnmaa.Dk
set_option linter.unusedVariables false
set_option linter.unusedSimpArgs false

/-- The same but for strokes, count, plan. -/
def Dk.like (d : Dk) (s c : Nat) (p : Pl) : Dk := { d with strokes := s, count := c, plan := p }
theorem like_find (d : Dk) (s c : Nat) (p : Pl) (n : ByteArray) : (d.like s c p).find n = d.find n := rfl
theorem like_tick (d : Dk) (s c : Nat) (p : Pl) (hp : p.off ≤ 0) (hd : d.plan.off ≤ 0) : (d.like s c p).tick = d.tick.like (s + 1) (c + 1) p := by
  have h1 := tick_off (d := d.like s c p) hp
  have h2 := tick_off hd
  show ({ (d.like s c p) with strokes := s + 1, count := c + 1, off := (d.like s c p).tick.off } : Dk) = { d.tick with strokes := s + 1, count := c + 1, plan := p }
  rw [h1]
  show _ = ({ d with strokes := s + 1, count := c + 1, plan := p, off := d.tick.off } : Dk)
  rw [h2]; rfl
theorem like_image (d : Dk) (s c : Nat) (p : Pl) : (d.like s c p).image = d.image := rfl
theorem like_crashF (d : Dk) (s c : Nat) (p : Pl) : ∀ (m : AM) (r : List Int), (d.like s c p).crashFiles m r = d.crashFiles m r
  | [], _ => rfl
  | (a, g) :: m, r => by
    show (a, d.part g (nextP r (d.file g).units.length).1) :: (d.like s c p).crashFiles m (nextP r (d.file g).units.length).2 = (a, d.part g (nextP r (d.file g).units.length).1) :: d.crashFiles m (nextP r (d.file g).units.length).2
    rw [like_crashF d s c p m]
theorem like_crash (d : Dk) (s c : Nat) (p : Pl) (l : List Int) : (d.like s c p).crash l = d.crash l := by
  unfold Dk.crash
  exact like_crashF d s c p _ _
theorem tick_crash (d : Dk) (l : List Int) : d.tick.crash l = d.crash l := by
  have : ∀ (m : AM) (r : List Int), d.tick.crashFiles m r = d.crashFiles m r := by
    intro m
    induction m with
    | nil => intro r; rfl
    | cons x m ih =>
      intro r
      show (x.1, d.part x.2 (nextP r (d.file x.2).units.length).1) :: d.tick.crashFiles m (nextP r (d.file x.2).units.length).2 = (x.1, d.part x.2 (nextP r (d.file x.2).units.length).1) :: d.crashFiles m (nextP r (d.file x.2).units.length).2
      rw [ih]
  unfold Dk.crash
  exact this _ _
/-- What an error says of the count. -/
def countedB (e : Nat) : Bool := decide (e = 0) || decide (e = 114) || decide (e = 115)
/-- A call and its twin's: the answer, the count. -/
structure Goes (d : Dk) (s c : Nat) (p : Pl) (r : Dk × Nat) (r' : Dk × Nat) : Prop where
  err : r'.2 = r.2
  like : ∃ s' c', r'.1 = r.1.like s' c' p
/-- What a call counts. -/
structure Counts (d : Dk) (r : Dk × Nat) : Prop where
  strokes : r.1.strokes = d.strokes + (if countedB r.2 then 1 else 0)
  count : r.1.count = d.count + (if countedB r.2 then 1 else 0)
theorem Counts.stay (d : Dk) {e : Nat} (h : countedB e = false) : Counts d (d, e) := ⟨by simp [h], by simp [h]⟩
theorem Counts.tick (d d' : Dk) {e : Nat} (h : countedB e = true) (h1 : d'.strokes = d.strokes + 1) (h2 : d'.count = d.count + 1) : Counts d (d', e) := ⟨by simp [h, h1], by simp [h, h2]⟩
theorem told_0 {d : Dk} (h : d.plan.off ≤ 0) : d.tick.told = 0 := by unfold Dk.told; rw [tick_off h]; rfl
theorem append_counts {d : Dk} (ho : d.off = false) (hp : d.plan.off ≤ 0) (n : ByteArray) (b : By) : Counts d (d.append n b) := by
  have ht0 := told_0 hp
  have hto := tick_off hp
  rcases find_cases d n with ⟨f, hf, hg, _, hfa⟩ | ⟨hf, hg, _, hfa⟩ | ⟨hf, _, _⟩ | ⟨hf, ho2⟩
  · unfold Dk.append
    rw [hf]
    simp only [ht0, hto]
    by_cases hc : d.tick.planFull = true ∨ d.room - d.used < b.length
    · simp [hc]; exact Counts.tick d _ rfl rfl rfl
    · simp [hc]; exact Counts.tick d _ rfl rfl rfl
  · unfold Dk.append
    rw [hf]
    simp only [ht0, hto]
    by_cases hl : 64 ≤ d.names.length
    · simp [hl]; exact Counts.stay d rfl
    · by_cases hc : d.tick.planFull = true ∨ d.room - d.used < b.length
      · simp [hc, hl]; exact Counts.tick d _ rfl rfl rfl
      · simp [hc, hl]; exact Counts.tick d _ rfl rfl rfl
  · unfold Dk.append; rw [hf]; simp; exact Counts.stay d rfl
  · rw [ho] at ho2; cases ho2
theorem play_counts {d : Dk} (ho : d.off = false) (hp : d.plan.off ≤ 0) (o : POp) (hk : 1 ≤ o.kind ∧ o.kind ≤ 6) : Counts d (d.play o) := by
  have ht0 := told_0 hp
  have hto := tick_off hp
  obtain ⟨k, hk2⟩ : ∃ k : Nat, o.kind = (k : Int) := ⟨o.kind.toNat, by omega⟩
  have hn : ¬ o.kind < 0 := by omega
  unfold Dk.play
  rw [if_neg hn, hk2, Int.toNat_natCast]
  have hk3 : k = 1 ∨ k = 2 ∨ k = 3 ∨ k = 4 ∨ k = 5 ∨ k = 6 := by omega
  rcases hk3 with rfl | rfl | rfl | rfl | rfl | rfl
  · exact append_counts ho hp _ _
  · show Counts d (d.cut o.name o.n)
    unfold Dk.cut
    rcases find_cases d o.name with ⟨f, hf, _⟩ | ⟨hf, _⟩ | ⟨hf, _⟩ | ⟨hf, ho2⟩
    · rw [hf]
      show Counts d (if 0 ≤ o.n ∧ o.n ≤ (d.file f).seen.length then (d.tick.setFile f (Dk.cutF o.n.toNat), d.tick.told) else (d, 113))
      split
      · rw [ht0]; exact Counts.tick d _ rfl rfl rfl
      · exact Counts.stay d rfl
    · rw [hf]; exact Counts.stay d rfl
    · rw [hf]; exact Counts.stay d rfl
    · rw [ho] at ho2; cases ho2
  · show Counts d (d.sync o.name)
    unfold Dk.sync
    rcases find_cases d o.name with ⟨f, hf, _⟩ | ⟨hf, _⟩ | ⟨hf, _⟩ | ⟨hf, ho2⟩
    · rw [hf]
      show Counts d (if d.tick.off then d.tick else d.tick.setFile f Dk.syncF, d.tick.told)
      rw [ht0, hto]
      exact Counts.tick d _ rfl rfl rfl
    · rw [hf]; exact Counts.stay d rfl
    · rw [hf]; exact Counts.stay d rfl
    · rw [ho] at ho2; cases ho2
  · show Counts d d.syncNames
    unfold Dk.syncNames
    rw [ho, ht0, hto]
    exact Counts.tick d _ rfl rfl rfl
  · show Counts d (d.rename o.name o.to_)
    unfold Dk.rename
    rcases find_cases d o.name with ⟨f, hf, _⟩ | ⟨hf, _⟩ | ⟨hf, _⟩ | ⟨hf, ho2⟩
    · rw [hf]
      cases hfb : fair o.to_
      · simp; exact Counts.stay d rfl
      · by_cases e : o.name = o.to_
        · simp [e, ht0]; exact Counts.tick d _ rfl rfl rfl
        · simp [e, ht0]; exact Counts.tick d _ rfl rfl rfl
    · rw [hf]
      cases hfb : fair o.to_ <;> simp <;> exact Counts.stay d rfl
    · rw [hf]; simp; exact Counts.stay d rfl
    · rw [ho] at ho2; cases ho2
  · show Counts d (d.remove o.name)
    unfold Dk.remove
    rcases find_cases d o.name with ⟨f, hf, _⟩ | ⟨hf, _⟩ | ⟨hf, _⟩ | ⟨hf, ho2⟩
    · rw [hf]
      show Counts d (d.tick.change (.removes o.name), d.tick.told)
      rw [ht0]; exact Counts.tick d _ rfl rfl rfl
    · rw [hf]; exact Counts.stay d rfl
    · rw [hf]; exact Counts.stay d rfl
    · rw [ho] at ho2; cases ho2
theorem Goes.mk' {d : Dk} {s c : Nat} {p : Pl} {d' : Dk} {e : Nat} (s' c' : Nat) : Goes d s c p (d', e) (d'.like s' c' p, e) := ⟨rfl, s', c', rfl⟩
/-- The calls that are no appends. -/
theorem play_goes {d : Dk} (ho : d.off = false) (hp : d.plan.off ≤ 0) (s c : Nat) (p : Pl) (hpp : p.off ≤ 0) (o : POp) (hk : 2 ≤ o.kind ∧ o.kind ≤ 6) : Goes d s c p (d.play o) ((d.like s c p).play o) := by
  have ht0 := told_0 hp
  have hto := tick_off hp
  have ht1 : (d.like s c p).tick.told = 0 := told_0 hpp
  have hto1 : (d.like s c p).tick.off = false := tick_off hpp
  have hlt := like_tick d s c p hpp hp
  obtain ⟨k, hk2⟩ : ∃ k : Nat, o.kind = (k : Int) := ⟨o.kind.toNat, by omega⟩
  have hn : ¬ o.kind < 0 := by omega
  unfold Dk.play
  rw [if_neg hn, if_neg hn, hk2, Int.toNat_natCast]
  have hk3 : k = 2 ∨ k = 3 ∨ k = 4 ∨ k = 5 ∨ k = 6 := by omega
  rcases hk3 with rfl | rfl | rfl | rfl | rfl
  · show Goes d s c p (d.cut o.name o.n) ((d.like s c p).cut o.name o.n)
    unfold Dk.cut
    rw [like_find]
    rcases d.find o.name with ⟨_ | f, e⟩
    · exact Goes.mk' s c
    · show Goes d s c p (if 0 ≤ o.n ∧ o.n ≤ (d.file f).seen.length then (d.tick.setFile f (Dk.cutF o.n.toNat), d.tick.told) else (d, 113)) (if 0 ≤ o.n ∧ o.n ≤ (d.file f).seen.length then ((d.like s c p).tick.setFile f (Dk.cutF o.n.toNat), (d.like s c p).tick.told) else (d.like s c p, 113))
      split
      · rw [ht0, ht1, hlt]; exact Goes.mk' (s + 1) (c + 1)
      · exact Goes.mk' s c
  · show Goes d s c p (d.sync o.name) ((d.like s c p).sync o.name)
    unfold Dk.sync
    rw [like_find]
    rcases d.find o.name with ⟨_ | f, e⟩
    · exact Goes.mk' s c
    · show Goes d s c p (if d.tick.off then d.tick else d.tick.setFile f Dk.syncF, d.tick.told) (if (d.like s c p).tick.off then (d.like s c p).tick else (d.like s c p).tick.setFile f Dk.syncF, (d.like s c p).tick.told)
      rw [ht0, ht1, hto, hto1, hlt]; exact Goes.mk' (s + 1) (c + 1)
  · show Goes d s c p d.syncNames (d.like s c p).syncNames
    unfold Dk.syncNames
    rw [show (d.like s c p).off = false from ho, ho, ht0, ht1, hto, hto1, hlt]
    exact Goes.mk' (d' := { d.tick with sure := chplay d.sure d.changes, changes := [] }) (s + 1) (c + 1)
  · show Goes d s c p (d.rename o.name o.to_) ((d.like s c p).rename o.name o.to_)
    unfold Dk.rename
    rw [like_find]
    rcases d.find o.name with ⟨x, e⟩
    simp only
    split
    · exact Goes.mk' s c
    · split
      · exact Goes.mk' s c
      · split
        · exact Goes.mk' s c
        · rw [ht0, ht1, hlt]
          split
          · exact Goes.mk' (s + 1) (c + 1)
          · exact Goes.mk' (d' := d.tick.change (.renames o.name o.to_)) (s + 1) (c + 1)
  · show Goes d s c p (d.remove o.name) ((d.like s c p).remove o.name)
    unfold Dk.remove
    rw [like_find]
    rcases d.find o.name with ⟨_ | f, e⟩
    · exact Goes.mk' s c
    · show Goes d s c p (d.tick.change (.removes o.name), d.tick.told) ((d.like s c p).tick.change (.removes o.name), (d.like s c p).tick.told)
      rw [ht0, ht1, hlt]; exact Goes.mk' (d' := d.tick.change (.removes o.name)) (s + 1) (c + 1)
/-- An append, where room is enough: refused just where the plan says so; else as the twin, that has no such plan. -/
theorem append_goes {d : Dk} (ho : d.off = false) (hp : d.plan.off ≤ 0) (s c : Nat) (p : Pl) (hpp : p.off ≤ 0) (hpf : p.from_ ≤ 0) (n : ByteArray) (b : By) (hr : d.used + b.length ≤ d.room) :
    (d.tick.planFull = true ∧ d.append n b = (d.tick, 114)) ∨ ((d.append n b).2 ≠ 114 ∧ ((d.append n b).2 = 0 → d.tick.planFull = false) ∧ Goes d s c p (d.append n b) ((d.like s c p).append n b)) := by
  have ht0 := told_0 hp
  have hto := tick_off hp
  have ht1 : (d.like s c p).tick.told = 0 := told_0 hpp
  have hto1 : (d.like s c p).tick.off = false := tick_off hpp
  have hlt := like_tick d s c p hpp hp
  have hpl : (d.like s c p).tick.planFull = false := by
    unfold Dk.planFull
    have : ¬ 0 < (d.like s c p).tick.plan.from_ := by show ¬ 0 < p.from_; omega
    simp [this]
  have hroom : ¬ d.room - d.used < b.length := by omega
  have hroom1 : ¬ (d.like s c p).room - (d.like s c p).used < b.length := hroom
  have hA : ∀ (x : Option Nat) (e : Nat), d.find n = (x, e) → (e = 0 ∨ e = 112 ∧ d.names.length < 64) → (d.tick.planFull = true ∧ d.append n b = (d.tick, 114)) ∨ (d.tick.planFull = false ∧ d.append n b = (match x with | some f => (d.tick.setFile f (Dk.give b), d.tick.told) | none => ((d.tick.fresh.change (.makes n d.files.length)).setFile d.files.length (Dk.give b), d.tick.told))) := by
    intro x e hf he
    have h1 : ¬ (e ≠ 0 ∧ e ≠ 112) := by omega
    have h2 : ¬ (e = 112 ∧ 64 ≤ d.names.length) := by omega
    unfold Dk.append
    rw [hf]
    simp only [h1, h2, if_false]
    cases hX : d.tick.planFull
    · right
      refine ⟨rfl, ?_⟩
      rw [if_neg (fun h => h.elim (fun h => by cases h) hroom)]
      cases x <;> rfl
    · left
      refine ⟨rfl, ?_⟩
      rw [if_pos (.inl rfl), hto]; rfl
  have hB : ∀ (x : Option Nat) (e : Nat), d.find n = (x, e) → (e = 0 ∨ e = 112 ∧ d.names.length < 64) → (d.like s c p).append n b = (match x with | some f => ((d.like s c p).tick.setFile f (Dk.give b), (d.like s c p).tick.told) | none => (((d.like s c p).tick.fresh.change (.makes n d.files.length)).setFile d.files.length (Dk.give b), (d.like s c p).tick.told)) := by
    intro x e hf he
    have h1 : ¬ (e ≠ 0 ∧ e ≠ 112) := by omega
    have h2 : ¬ (e = 112 ∧ 64 ≤ (d.like s c p).names.length) := by
      have : (d.like s c p).names.length = d.names.length := rfl
      omega
    unfold Dk.append
    rw [like_find, hf]
    simp only [h1, h2, if_false]
    rw [if_neg (fun h => h.elim (fun h => by rw [hpl] at h; cases h) hroom1)]
    cases x <;> rfl
  have key : ∀ (x : Option Nat) (e : Nat), d.find n = (x, e) → (e = 0 ∨ e = 112 ∧ d.names.length < 64) → (d.tick.planFull = true ∧ d.append n b = (d.tick, 114)) ∨ ((d.append n b).2 ≠ 114 ∧ ((d.append n b).2 = 0 → d.tick.planFull = false) ∧ Goes d s c p (d.append n b) ((d.like s c p).append n b)) := by
    intro x e hf he
    rcases hA x e hf he with h | ⟨h1, h2⟩
    · exact .inl h
    · right
      rw [h2, hB x e hf he, ht0, ht1, hlt]
      cases x with
      | none => exact ⟨by simp, fun _ => h1, Goes.mk' (d' := (d.tick.fresh.change (.makes n d.files.length)).setFile d.files.length (Dk.give b)) (s + 1) (c + 1)⟩
      | some f => exact ⟨by simp, fun _ => h1, Goes.mk' (d' := d.tick.setFile f (Dk.give b)) (s + 1) (c + 1)⟩
  have bad : ∀ e : Nat, (e ≠ 0 ∧ e ≠ 114) → d.append n b = (d, e) → (d.like s c p).append n b = (d.like s c p, e) → (d.tick.planFull = true ∧ d.append n b = (d.tick, 114)) ∨ ((d.append n b).2 ≠ 114 ∧ ((d.append n b).2 = 0 → d.tick.planFull = false) ∧ Goes d s c p (d.append n b) ((d.like s c p).append n b)) := by
    intro e he h1 h2
    rw [h1, h2]
    exact .inr ⟨he.2, fun h => absurd h he.1, Goes.mk' s c⟩
  rcases find_cases d n with ⟨f, hf, _⟩ | ⟨hf, _⟩ | ⟨hf, _⟩ | ⟨hf, ho2⟩
  · exact key _ _ hf (.inl rfl)
  · by_cases hl : d.names.length < 64
    · exact key _ _ hf (.inr ⟨rfl, hl⟩)
    · have hl2 : 64 ≤ d.names.length := by omega
      have hl3 : 64 ≤ (d.like s c p).names.length := hl2
      exact bad 111 (by omega) (by unfold Dk.append; rw [hf]; simp [hl2]) (by unfold Dk.append; rw [like_find, hf]; simp [hl3])
  · exact bad 111 (by omega) (by unfold Dk.append; rw [hf]; simp) (by unfold Dk.append; rw [like_find, hf]; simp)
  · rw [ho] at ho2; cases ho2
end Go.Proofs.Ytonecajkfbdnmaa.Dk

namespace Go.Proofs.Ytonecajkfbdnmaa.Dk
set_option linter.unusedVariables false
set_option linter.unusedSimpArgs false

/-- What the law's loop keeps of its two disks. -/
structure Full (pl : Pl) (a b : Dk) (i n : Nat) : Prop where
  ona : On a (i * 4100)
  onb : On b (i * 4100)
  room : a.room = 67108864
  pl : a.plan = pl
  st : a.strokes = n
  ct : a.count = n
  tw : ∃ s c, b = a.like s c ⟨0, 0, 0⟩
theorem Full.start (pl : Pl) (h : pl.off ≤ 0) : Full pl ((Dk.new 67108864).setPlan pl) (Dk.new 67108864) 0 0 := by
  have hi := new_inv 67108864 (Nat.le_refl _)
  have hb := new_bd 67108864 (Nat.le_refl _)
  refine ⟨⟨⟨⟨hi.ok.sn, hi.ok.ss, hi.ok.play, hi.ok.chs, hi.ok.lt, hi.ok.lts, hi.ok.ltc, hi.ok.nd, hi.ok.fl, hi.ok.few, hi.ok.room⟩, hi.pre, hi.big⟩, ⟨Nat.le_refl _, Nat.le_refl _, Nat.le_refl _, hb.units, hb.seen, hb.kept, hb.room⟩, rfl, h⟩, ⟨hi, hb, rfl, Int.le_refl _⟩, rfl, rfl, rfl, rfl, 0, 0, rfl⟩
theorem Full.img {pl : Pl} {a b : Dk} {i n : Nat} (h : Full pl a b i n) : b.image = a.image := by
  obtain ⟨s, c, e⟩ := h.tw
  rw [e]; exact like_image a s c _
theorem Full.crash {pl : Pl} {a b : Dk} {i n : Nat} (h : Full pl a b i n) (l : List Int) : b.crash l = a.crash l := by
  obtain ⟨s, c, e⟩ := h.tw
  rw [e]; exact like_crash a s c _ l
theorem Full.step {fr to_ : Nat} {a b : Dk} {i n : Nat} (h : Full ⟨0, fr, to_⟩ a b i n) (hfr : 0 < fr) (o : POp) (hk : 1 ≤ o.kind ∧ o.kind ≤ 6) (hb : o.b.length ≤ 4096) (hi : i ≤ 250) :
    (o.kind = 1 ∧ (a.play o).2 = 114 ∧ (fr ≤ n + 1 ∧ n + 1 ≤ to_) ∧ (∀ l, (a.play o).1.crash l = a.crash l) ∧ Full ⟨0, fr, to_⟩ (a.play o).1 b (i + 1) (n + 1)) ∨
    (¬ (o.kind = 1 ∧ (a.play o).2 = 114) ∧ (o.kind = 1 → (a.play o).2 = 0 → ¬ (fr ≤ n + 1 ∧ n + 1 ≤ to_)) ∧ (b.play o).2 = (a.play o).2 ∧ Full ⟨0, fr, to_⟩ (a.play o).1 (b.play o).1 (i + 1) (n + if countedB (a.play o).2 then 1 else 0)) := by
  obtain ⟨s, c, htw⟩ := h.tw
  have hca := play_calm a o
  have hcn := play_counts h.ona.off h.ona.po o hk
  have hona : On (a.play o).1 ((i + 1) * 4100) := (h.ona.play o).mono (by omega)
  have honb : On (b.play o).1 ((i + 1) * 4100) := (h.onb.play o).mono (by omega)
  have hfull : a.tick.planFull = true ↔ (fr ≤ n + 1 ∧ n + 1 ≤ to_) := by
    unfold Dk.planFull
    show (decide (a.plan.from_ ≤ ((a.count + 1 : Nat) : Int)) && (decide (((a.count + 1 : Nat) : Int) ≤ a.plan.to_) && decide (0 < a.plan.from_))) = true ↔ _
    rw [h.pl, h.ct]
    simp only [Bool.and_eq_true, decide_eq_true_iff]
    omega
  have last : ∀ (r : Dk × Nat), b.play o = r → Goes a s c ⟨0, 0, 0⟩ (a.play o) r → Full ⟨0, fr, to_⟩ (a.play o).1 (b.play o).1 (i + 1) (n + if countedB (a.play o).2 then 1 else 0) := by
    intro r hr hg
    obtain ⟨s', c', hl⟩ := hg.like
    exact ⟨hona, honb, by rw [hca.room]; exact h.room, by rw [hca.plan]; exact h.pl, by rw [hcn.strokes, h.st], by rw [hcn.count, h.ct], s', c', by rw [hr]; exact hl⟩
  by_cases h1 : o.kind = 1
  · have hpa : ∀ d : Dk, d.play o = d.append o.name o.b := fun d => by
      unfold Dk.play
      rw [h1]; rfl
    have hu := used_le h.ona
    have hr : a.used + o.b.length ≤ a.room := by rw [h.room]; omega
    rcases append_goes h.ona.off h.ona.po s c ⟨0, 0, 0⟩ (Int.le_refl _) (Int.le_refl _) o.name o.b hr with ⟨h2, h3⟩ | ⟨h2, h3, h4⟩
    · left
      have e : a.play o = (a.tick, 114) := by rw [hpa, h3]
      refine ⟨h1, by rw [e], hfull.1 h2, fun l => by rw [e]; exact tick_crash a l, hona, ⟨h.onb.inv, h.onb.bd.mono (by omega), h.onb.off, h.onb.po⟩, by rw [hca.room]; exact h.room, by rw [hca.plan]; exact h.pl, ?_, ?_, s, c, ?_⟩
      · rw [e]; show a.strokes + 1 = _; rw [h.st]
      · rw [e]; show a.count + 1 = _; rw [h.ct]
      · rw [e, htw]
        have hto := tick_off h.ona.po
        have hoff := h.ona.off
        show ({ a with strokes := s, count := c, plan := ⟨0, 0, 0⟩ } : Dk) = { a with strokes := s, count := c, plan := ⟨0, 0, 0⟩, off := a.tick.off }
        rw [hto, ← hoff]
    · right
      rw [← hpa, ← htw, ← hpa] at h4
      rw [← hpa] at h2 h3
      exact ⟨fun hh => h2 hh.2, fun _ h0 hh => by rw [h3 h0] at hfull; exact absurd (hfull.2 hh) (by simp), h4.err, last _ rfl h4⟩
  · right
    have hg := play_goes h.ona.off h.ona.po s c ⟨0, 0, 0⟩ (Int.le_refl _) o ⟨by omega, hk.2⟩
    rw [← htw] at hg
    exact ⟨fun hh => h1 hh.1, fun hh => absurd hh h1, hg.err, last _ rfl hg⟩
end Go.Proofs.Ytonecajkfbdnmaa.Dk

namespace Go.Proofs.Ytonecajkfbdnmaa.Dk
open Go.Lib Go.RowKit Go.ChangeMaps Go.Proofs.Ytonecajkfbdnmaa.Mp Go.Proofs.YtonecajkfbdnmaaW.PrintWords Go.Proofs.YtonecajkfbdnmaaW.PrintLast Go.Proofs.YtonecajkfbdnmaaW.PrintMore Go.Proofs.Ytonecajkfbdnmaa.PDiskRoom Go.Proofs.Ytonecajkfbdnmaa.Dw
set_option linter.unusedVariables false
set_option linter.unusedSimpArgs false

def both (oa ob : Own) : Own := fun k => match oa k with | some r => some r | none => ob k
theorem both_none {oa ob : Own} {k : Nat} : both oa ob k = none ↔ oa k = none ∧ ob k = none := by
  unfold both
  cases oa k <;> simp
/-- Two disks that share nothing. -/
structure Two (w : World) (ka kb : Nat) (a b : Dk) (oa ob : Own) (ba bb : Nat → Nat) : Prop where
  ra : Rep oa w ka ba a
  rb : Rep ob w kb bb b
  dj : ∀ k r, oa k = some r → ob k = none
theorem Two.dj2 {w : World} {ka kb : Nat} {a b : Dk} {oa ob : Own} {ba bb : Nat → Nat} (h : Two w ka kb a b oa ob ba bb) : ∀ k r, ob k = some r → oa k = none := fun k r hk => by
  cases e : oa k with
  | none => rfl
  | some x => rw [h.dj k x e] at hk; cases hk
theorem Two.below {w w' : World} {ka kb : Nat} {a b : Dk} {oa ob : Own} {ba bb : Nat → Nat} (h : Two w ka kb a b oa ob ba bb) (hb : Below w.heap.size w w') : Two w' ka kb a b oa ob ba bb := ⟨h.ra.below hb, h.rb.below hb, h.dj⟩
/-- The first one turned. -/
theorem Two.left {w w' : World} {ka kb : Nat} {a b a' : Dk} {oa ob : Own} {ba bb : Nat → Nat} (h : Two w ka kb a b oa ob ba bb) (hl : Left oa w ka a' w') : ∃ oa' ba', Two w' ka kb a' b oa' ob ba' bb ∧ Fr (both oa ob) (both oa' ob) w w' := by
  obtain ⟨oa', ba', hr, hf⟩ := hl
  refine ⟨oa', ba', ⟨hr, h.rb.other hf h.dj2, fun k r hk => ?_⟩, ⟨hf.os, hf.tape, hf.output, hf.size, fun k hk hn => hf.block k hk (both_none.1 hn).1, fun k hk hn => both_none.2 ⟨hf.new k hk (both_none.1 hn).1, (both_none.1 hn).2⟩⟩⟩
  cases e : ob k with
  | none => rfl
  | some x =>
    have h1 := hf.new k (h.rb.lt k x e) (h.dj2 k x e)
    rw [h1] at hk; cases hk
/-- The second one turned. -/
theorem Two.right {w w' : World} {ka kb : Nat} {a b b' : Dk} {oa ob : Own} {ba bb : Nat → Nat} (h : Two w ka kb a b oa ob ba bb) (hl : Left ob w kb b' w') : ∃ ob' bb', Two w' ka kb a b' oa ob' ba bb' ∧ Fr (both oa ob) (both oa ob') w w' := by
  obtain ⟨ob', bb', hr, hf⟩ := hl
  refine ⟨ob', bb', ⟨h.ra.other hf h.dj, hr, fun k r hk => hf.new k (h.ra.lt k r hk) (h.dj k r hk)⟩, ⟨hf.os, hf.tape, hf.output, hf.size, fun k hk hn => hf.block k hk (both_none.1 hn).2, fun k hk hn => both_none.2 ⟨(both_none.1 hn).1, hf.new k hk (both_none.1 hn).2⟩⟩⟩
theorem Two.above {w : World} {ka kb : Nat} {a b : Dk} {oa ob : Own} {ba bb : Nat → Nat} (h : Two w ka kb a b oa ob ba bb) : ∀ k, w.heap.size ≤ k → both oa ob k = none := fun k hk => both_none.2 ⟨h.ra.above k hk, h.rb.above k hk⟩
theorem Out.both {oa ob : Own} {w : World} {A : Option Addr} {xs : List Int} (h : Out (both oa ob) w A xs) : Out oa w A xs ∧ Out ob w A xs :=
  ⟨⟨h.1, fun ad e hn => (both_none.1 (h.2 ad e hn)).1⟩, ⟨h.1, fun ad e hn => (both_none.1 (h.2 ad e hn)).2⟩⟩

/-- Rows whose inner parts are read in an elder world are so in a younger one. -/
theorem R_fix {w0 w1 w : World} {base : Nat} {ok : Nat → Prop} {v : Value} {xs : List S58} (hb : Below w0.heap.size w0 w1) (h : Kd.R (kO w0) 58 w base ok v xs) : Kd.R (kO w1) 58 w base ok v xs :=
  Kd.R_imp (d := kO w0) (d' := kO w1) rfl (fun _ _ _ x cs hc => k58.K_below hb hc) h
/-- A step's cells: the bytes read in a world, P of the block that holds them. -/
def QK (W : World) (P : Nat → Prop) (x : S58) (cs : List Value) : Prop :=
  ∃ A5 c5 A9 c9, cs = [.int .i64 x.f0, .int .i64 x.f1, .int .i64 x.f2, .string x.f3, .string x.f4, .slice A5 x.f5.length c5, .int .i64 x.f6.f0, .int .i64 x.f6.f1, .int .i64 x.f6.f2, .slice A9 x.f7.length c9] ∧ x.f5.length ≤ c5 ∧ Kd.C kB W A5 x.f5.length x.f5 ∧ x.f7.length ≤ c9 ∧ ∀ ad, A5 = some ad → 0 < x.f5.length → P ad.block
theorem bytes_move {w w' : World} {A : Option Addr} {xs : List Int} (hC : Kd.C kB w A xs.length xs) (hm : ∀ ad, A = some ad → 0 < xs.length → w'.heap[ad.block]? = w.heap[ad.block]?) : Kd.C kB w' A xs.length xs := by
  have hr := Kd.reads_of_C (d := (0 : Int)) hC
  refine Kd.C_of_reads (d := (0 : Int)) ⟨hr.1, hr.2.1, fun hn => ?_⟩
  obtain ⟨ad, e, hc⟩ := hr.2.2 hn
  refine ⟨ad, e, fun j hj => ?_⟩
  have hcj := hc j hj
  have hb : (ad.add j).block = ad.block := by unfold Addr.add; split <;> rfl
  have he : w'.heap[(ad.add j).block]? = w.heap[(ad.add j).block]? := by rw [hb]; exact hm ad e hn
  rw [World.cell?_of_block he]
  exact hcj
theorem QK.move {W W' : World} {P : Nat → Prop} {x : S58} {cs : List Value} (h : QK W P x cs) (hm : ∀ k, P k → W'.heap[k]? = W.heap[k]?) : QK W' P x cs := by
  obtain ⟨A5, c5, A9, c9, e, l5, g5, l9, hp⟩ := h
  exact ⟨A5, c5, A9, c9, e, l5, bytes_move g5 (fun ad ha hn => hm _ (hp ad ha hn)), l9, hp⟩
theorem C_block {w : World} {ad : Addr} {xs : List Int} (h : Kd.C kB w (some ad) xs.length xs) (hn : 0 < xs.length) : ad.block < w.heap.size := by
  obtain ⟨ad', e, h0⟩ := C_cells h hn
  obtain rfl := Option.some.inj e
  have h1 := World.block_lt_of_cell? w _ (h0 0 _ (by rw [List.getElem?_map, List.getElem?_eq_getElem hn]; rfl))
  have hbk : (ad.add 0).block = ad.block := by unfold Addr.add; split <;> rfl
  rw [hbk] at h1
  exact h1
def kQ (W : World) (P : Nat → Prop) : Kd S58 where
  sz := k58.sz
  E := []
  K := fun _ x cs => QK W P x cs
  M := fun _ _ _ x cs => QK W P x cs
  K_len := fun h => by obtain ⟨A5, c5, A9, c9, rfl, _⟩ := h; rfl
  K_one := fun h => by
    obtain ⟨A5, c5, A9, c9, rfl, _⟩ := h
    intro u hu
    simp only [List.mem_cons, List.not_mem_nil, or_false] at hu
    rcases hu with rfl | rfl | rfl | rfl | rfl | rfl | rfl | rfl | rfl | rfl <;> rfl
  K_below := fun _ h => h
  K_of_M := fun h => h
  M_mono := fun _ h => h
  M_bound := fun h => h
  M_move := fun _ h => h
  M_lower := fun _ h => h
theorem info58Q (wE : World) (P : Nat → Prop) : (Try.prog.info? 58).map (fun i => (i.zero, i.size, i.bytes)) = some (some (.agg #[.int .i64 0, .int .i64 0, .int .i64 0, .string ⟨#[]⟩, .string ⟨#[]⟩, .slice none 0 0, .int .i64 0, .int .i64 0, .int .i64 0, .slice none 0 0]), (kQ wE P).sz, 128) := info58k
theorem R_kQ {w0 wE w : World} {P : Nat → Prop} {base : Nat} {ok : Nat → Prop} {v : Value} {xs : List S58} (hb : Below w0.heap.size w0 wE) (hP : ∀ k, k < w0.heap.size → P k) (h : Kd.R (kO w0) 58 w base ok v xs) : Kd.R (kQ wE P) 58 w base ok v xs :=
  Kd.R_imp (d := kO w0) (d' := kQ wE P) rfl (fun _ _ _ x cs hc => by
    obtain ⟨A5, c5, A9, c9, rfl, l5, g5, l9, g9⟩ := k58_open (w := w0) hc
    exact ⟨A5, c5, A9, c9, rfl, l5, Kd.C_below g5 hb, l9, fun ad ha hn => by subst ha; exact hP _ (C_block g5 hn)⟩) h
theorem R_kQ_move {W W' w : World} {P : Nat → Prop} {base : Nat} {ok : Nat → Prop} {v : Value} {xs : List S58} (hm : ∀ k, P k → W'.heap[k]? = W.heap[k]?) (h : Kd.R (kQ W P) 58 w base ok v xs) : Kd.R (kQ W' P) 58 w base ok v xs :=
  Kd.R_imp (d := kQ W P) (d' := kQ W' P) rfl (fun _ _ _ x cs hc => QK.move hc hm) h
/-- A step of such a row, at its cells. -/
theorem opQ_at {wE w : World} {P : Nat → Prop} {A : Option Addr} {xs : List S58} (h : Kd.C (kQ wE P) w A xs.length xs) (i : Nat) (hi : i < xs.length) : ∃ ad A5 c5 A9 c9, A = some ad ∧ w.cell? (ad.add (i * 10)) = some (.int .i64 xs[i].f0) ∧
    w.cell? ⟨(ad.add (i * 10)).block, (ad.add (i * 10)).off + 1, none⟩ = some (.int .i64 xs[i].f1) ∧ w.cell? ⟨(ad.add (i * 10)).block, (ad.add (i * 10)).off + 2, none⟩ = some (.int .i64 xs[i].f2) ∧
    w.cell? ⟨(ad.add (i * 10)).block, (ad.add (i * 10)).off + 3, none⟩ = some (.string xs[i].f3) ∧ w.cell? ⟨(ad.add (i * 10)).block, (ad.add (i * 10)).off + 4, none⟩ = some (.string xs[i].f4) ∧
    w.cell? ⟨(ad.add (i * 10)).block, (ad.add (i * 10)).off + 5, none⟩ = some (.slice A5 xs[i].f5.length c5) ∧ w.cell? ⟨(ad.add (i * 10)).block, (ad.add (i * 10)).off + 6, none⟩ = some (.int .i64 xs[i].f6.f0) ∧
    w.cell? ⟨(ad.add (i * 10)).block, (ad.add (i * 10)).off + 7, none⟩ = some (.int .i64 xs[i].f6.f1) ∧ w.cell? ⟨(ad.add (i * 10)).block, (ad.add (i * 10)).off + 8, none⟩ = some (.int .i64 xs[i].f6.f2) ∧
    w.cell? ⟨(ad.add (i * 10)).block, (ad.add (i * 10)).off + 9, none⟩ = some (.slice A9 xs[i].f7.length c9) ∧ xs[i].f5.length ≤ c5 ∧ Kd.C kB wE A5 xs[i].f5.length xs[i].f5 ∧ xs[i].f7.length ≤ c9 ∧ ∀ ad, A5 = some ad → 0 < xs[i].f5.length → P ad.block := by
  obtain ⟨ad, c, e, _, hK, hc0⟩ := Kd.C_get h z58 (i : Int) (by omega) (by omega)
  have hc : ∀ j u, c[j]? = some u → w.cell? (ad.add (i * 10 + j)) = some u := hc0
  rw [Int.toNat_natCast, List.getD_eq_getElem?_getD, List.getElem?_eq_getElem hi] at hK
  obtain ⟨A5, c5, A9, c9, rfl, l5, g5, l9, hp⟩ := hK
  exact ⟨ad, A5, c5, A9, c9, e, hc 0 _ rfl, by rw [← add_field _ _ 1 (by omega)]; exact hc 1 _ rfl, by rw [← add_field _ _ 2 (by omega)]; exact hc 2 _ rfl, by rw [← add_field _ _ 3 (by omega)]; exact hc 3 _ rfl, by rw [← add_field _ _ 4 (by omega)]; exact hc 4 _ rfl, by rw [← add_field _ _ 5 (by omega)]; exact hc 5 _ rfl, by rw [← add_field _ _ 6 (by omega)]; exact hc 6 _ rfl, by rw [← add_field _ _ 7 (by omega)]; exact hc 7 _ rfl, by rw [← add_field _ _ 8 (by omega)]; exact hc 8 _ rfl, by rw [← add_field _ _ 9 (by omega)]; exact hc 9 _ rfl, l5, g5, l9, hp⟩
/-! ### counted -/
set_option maxRecDepth 100000 in
theorem counted_walk (e : Nat) (w : World) : Calls Try.prog 33 #[.int .i64 (e : Int)] w fun r w' => r = .returned (.bool (countedB e)) ∧ ∃ m, w' = w.drewN m := by
  by_cases h0 : e = 0
  · subst h0
    go_enter Try.func33, Try.ntmps33
    go_wp2_with fail
    go_ret
    exact ⟨rfl, 0, rfl⟩
  · by_cases h1 : e = 114
    · subst h1
      go_enter Try.func33, Try.ntmps33
      go_wp2_with fail
      go_ret
      exact ⟨rfl, 0, rfl⟩
    · have q0 : ¬ (e : Int) = 0 := by omega
      have q1 : ¬ (e : Int) = 114 := by omega
      by_cases h2 : e = 115
      · subst h2
        go_enter Try.func33, Try.ntmps33
        go_wp2_with fail
        go_ret
        exact ⟨rfl, 0, rfl⟩
      · have q2 : ¬ (e : Int) = 115 := by omega
        have hf : countedB e = false := by unfold countedB; simp [h0, h1, h2]
        rw [hf]
        go_enter Try.func33, Try.ntmps33
        go_wp2_with fail
        go_ret
        refine ⟨?_, 0, rfl⟩
        show Ending.returned (Value.bool ((e : Int) == 0 || (e : Int) == 114 || (e : Int) == 115)) = _
        rw [beq_eq_false_iff_ne.2 q0, beq_eq_false_iff_ne.2 q1, beq_eq_false_iff_ne.2 q2]
        rfl
end Go.Proofs.Ytonecajkfbdnmaa.Dk
