/- The walk of the law DiskSafe. -/
import Derived.Test.YtonecajkfbdnmaaEt
import Derived.Test.YtonecajkfbdnmaaRows
import Derived.Deep.DeepHandedRow
import Derived.Deep.DeepWitnessRowRef
import Derived.ProofKit
import Derived.SizedLaws
import Derived.OpenShut
import Derived.Carry
namespace Go.Proofs.Ytonecajkfbdnmaa.Dk
open Go.Lib Go.RowKit Go.ChangeMaps Go.Proofs.Ytonecajkfbdnmaa.Mp Go.Proofs.YtonecajkfbdnmaaW.PrintWords Go.Proofs.YtonecajkfbdnmaaW.PrintLast Go.Proofs.YtonecajkfbdnmaaW.PrintMore Go.Proofs.Ytonecajkfbdnmaa.PDiskRoom Go.Proofs.Ytonecajkfbdnmaa.Dw
set_option linter.unusedVariables false
set_option linter.unusedSimpArgs false

theorem opPre_few {o : S58} (h : OpPre o) : OpOk (fewM o) := by
  refine ⟨?_, ?_, h.name, h.to_, h.n⟩
  · show ints (toBy (o.f5.take 4096)) = o.f5.take 4096
    have e : ints (toBy (o.f5.take 4096)) = (ints (toBy o.f5)).take 4096 := by unfold ints toBy; rw [List.map_take, List.map_take]
    rw [e, h.bytes]
  · show (o.f5.take 4096).length ≤ _
    have := List.length_take_le 4096 o.f5
    omega
theorem few_op {l : List S58} (hl : ∀ o ∈ l, OpPre o) {o : S58} (h : o ∈ fewOps l) : OpOk o ∧ (1 ≤ o.f0 ∧ o.f0 ≤ 6) ∧ o.f5.length ≤ 4096 := by
  obtain ⟨h1, h2, p, hp, rfl⟩ := fewOps_mem h
  exact ⟨opPre_few (hl p hp), h1, h2⟩
/-- A disk with much room, on, without a plan to be full. -/
structure Wide (d : Dk) (B : Nat) : Prop where
  on : On d B
  pf : d.plan.from_ ≤ 0
  room : d.room = 67108864
theorem Wide.start : Wide (Dk.new 67108864) 0 := ⟨⟨new_inv _ (Nat.le_refl _), new_bd _ (Nat.le_refl _), rfl, Int.le_refl _⟩, Int.le_refl _, rfl⟩
theorem Wide.play {d : Dk} {i : Nat} (h : Wide d (i * 4100)) (o : POp) (hb : o.b.length ≤ 4096) : Wide (d.play o).1 ((i + 1) * 4100) := by
  have hc := play_calm d o
  have h1 := h.on.play o
  exact ⟨⟨h1.inv, h1.bd.mono (by omega), h1.off, h1.po⟩, by rw [hc.plan]; exact h.pf, by rw [hc.room]; exact h.room⟩
theorem R_keep {α : Type} {d : Kd α} {e : Nat} {own own' : Own} {w W : World} {base : Nat} {v : Value} {xs : List α} (h : Kd.R d e w base (fun k => base ≤ k) v xs) (ho : ∀ k, base ≤ k → own k = none) (hf : Fr own own' w W) : Kd.R d e W base (fun k => base ≤ k) v xs :=
  Kd.R_step h (fun k hk hlt => hf.block k hlt (ho k hk))
theorem Rep.above {own : Own} {w : World} {kd : Nat} {blk : Nat → Nat} {d : Dk} (h : Rep own w kd blk d) : ∀ k, w.heap.size ≤ k → own k = none := fun k hk => by
  cases e : own k with
  | none => rfl
  | some x => have := h.lt k x e; omega
theorem On.mono {d : Dk} {B C : Nat} (h : On d B) (hc : B ≤ C) : On d C := ⟨h.inv, h.bd.mono hc, h.off, h.po⟩
theorem imgFind_mem : ∀ (l : Img) (n : ByteArray) (b : By), imgFind l n = some b → (n, b) ∈ l
  | [], _, _, h => by cases h
  | x :: l, n, b, h => by
    rw [imgFind_cons] at h
    split at h
    · rename_i e
      obtain rfl := Option.some.inj h
      subst e
      simp
    · exact List.mem_cons_of_mem _ (imgFind_mem l n b h)
theorem begins_len {b a : By} (h : beginsB b a = true) : a.length ≤ b.length := by
  have h := of_decide_eq_true h
  have := congrArg List.length h
  rw [List.length_take] at this
  omega
theorem img_len {d : Dk} {B : Nat} (h : On d B) : ∀ y ∈ d.image, y.2.length ≤ B := fun y hy => by
  obtain ⟨x, hx, rfl⟩ := List.mem_map.1 hy
  exact h.bd.seen _ (h.inv.ok.lt x hx)
theorem img_64 {d : Dk} {B : Nat} (h : On d B) : d.image.length ≤ 64 := by
  unfold Dk.image; rw [List.length_map]; exact h.inv.ok.few
theorem crashF_length (d : Dk) : ∀ (m : AM) (r : List Int), (d.crashFiles m r).length = m.length
  | [], _ => rfl
  | (a, g) :: m, r => by
    show (d.crashFiles m (nextP r (d.file g).units.length).2).length + 1 = m.length + 1
    rw [crashF_length d m]
theorem crash_64 {d : Dk} {B : Nat} (h : On d B) (r : List Int) : (d.crash r).length ≤ 64 := by
  unfold Dk.crash
  rw [crashF_length]
  exact (h.inv.pre _).few
theorem Grow.crash_len {s d : Dk} {B : Nat} (hs : s.Inv) (hd : On d B) (h : Grow s d) (r : List Int) : ∀ y ∈ d.crash r, y.2.length ≤ B := fun y hy => by
  obtain ⟨b, h1, h2⟩ := h.second hs hd.inv r y hy
  exact Nat.le_trans (begins_len h2) (img_len hd _ (imgFind_mem _ _ _ h1))
theorem row_at {w : World} {base n : Nat} {ok : Nat → Prop} {v : Value} {xs : List Int} (h : Kd.R (Kd.int .i64) 3 w base ok v xs) (hb : ∃ b, v.ownBlock = some b ∧ n ≤ b) : ∃ g cap, v = .slice (some ⟨g, 0, none⟩) xs.length cap := by
  obtain ⟨b, hb, _⟩ := hb
  obtain ⟨A, c, rfl⟩ := Kd.R_slice h
  obtain ⟨inner, hown⟩ := Kd.R_own h
  rcases hown.2 with ⟨e, _⟩ | ⟨g, cap, cur, e, _⟩
  · rw [e] at hb; cases hb
  · injection e with e1 e2 e3
    exact ⟨g, c, by rw [e1]⟩
theorem set_rep (t N : Nat) (h : t < N) : (List.replicate t (-1 : Int) ++ List.replicate (N - t) 0).set t (-1) = List.replicate (t + 1) (-1) ++ List.replicate (N - (t + 1)) 0 := by
  obtain ⟨m, rfl⟩ : ∃ m, N = t + (m + 1) := ⟨N - t - 1, by omega⟩
  have h1 : t + (m + 1) - t = m + 1 := by omega
  have h2 : t + (m + 1) - (t + 1) = m := by omega
  rw [h1, h2, List.set_append_right _ _ (by simp), List.length_replicate, Nat.sub_self, List.replicate_succ, List.set_cons_zero, List.replicate_succ' (n := t)]
  simp
theorem zero_at {w : World} {base g N cap t : Nat} {ok : Nat → Prop} (h : Kd.R (Kd.int .i64) 3 w base ok (.slice (some ⟨g, 0, none⟩) N cap) (List.replicate t (-1) ++ List.replicate (N - t) 0)) (ht : t < N) : ∀ (j : Nat) (u : Value), [Value.int .i64 0][j]? = some u → w.cell? ⟨g, t * (Kd.int .i64).sz + j, none⟩ = some u := by
  intro j u hj
  have hl : (List.replicate t (-1 : Int) ++ List.replicate (N - t) 0).length = N := by simp; omega
  have hC := (Kd.R_reads' h).2.2
  obtain ⟨xs, hxs⟩ : ∃ xs, List.replicate t (-1 : Int) ++ List.replicate (N - t) 0 = xs := ⟨_, rfl⟩
  rw [hxs] at hC hl
  have hC' : Kd.C (Kd.int .i64) w (some ⟨g, 0, none⟩) xs.length xs := hC
  obtain ⟨ad, c, e, hcl, hK, hc⟩ := Kd.C_get hC' (0 : Int) (t : Int) (by omega) (by rw [hl]; omega)
  subst hxs
  obtain rfl := Option.some.inj e
  have hg : (List.replicate t (-1 : Int) ++ List.replicate (N - t) 0).getD (t : Int).toNat 0 = 0 := by
    rw [Int.toNat_natCast, List.getD_eq_getElem?_getD, List.getElem?_append_right (by simp), List.length_replicate, Nat.sub_self]
    cases hm : N - t with
    | zero => rfl
    | succ m => rfl
  rw [hg] at hK
  have hK' : c = [Value.int .i64 0] := hK
  subst hK'
  have h9 := hc j u hj
  rw [Int.toNat_natCast] at h9
  rw [← h9]
  congr 1
  unfold Addr.add
  split <;> simp_all
theorem allSafe_names {d : Dk} {B : Nat} (h : On d B) : d.allSafe.names = d.names := by
  obtain ⟨h1, h2⟩ := On.syncAll d.namesOf h (fun n hn => by
    obtain ⟨⟨a, f⟩, hx, rfl⟩ := List.mem_map.1 hn
    exact ⟨f, (mem_aget h.inv.ok.sn a f).1 hx⟩)
  unfold Dk.allSafe
  rw [syncNames_on h1]
  exact h2
abbrev safeN : ByteArray := ⟨#[115, 97, 102, 101]⟩
abbrev safeOp : S58 := ⟨1, 0, 0, safeN, ⟨#[]⟩, [98, 121, 116, 101, 115], ⟨0, 0, 0⟩, []⟩
theorem safeOp_ok : OpOk safeOp := ⟨rfl, by decide, by unfold big; decide, by unfold big; decide, by decide⟩
theorem fair_safe : fair safeN = true := by decide +kernel
theorem play_one {d : Dk} {o : S58} (h : o.f0 = 1) : d.play (opOf o) = d.append o.f3 (toBy o.f5) := by
  unfold Dk.play
  rw [show (opOf o).kind = 1 from h]; rfl
set_option maxRecDepth 100000 in
set_option maxHeartbeats 16000000 in
theorem diskSafe_walk (w0 : World) (A1 : Option Addr) (c1 : Nat) (l1 : List S58) (off : Int) (A2 : Option Addr) (c2 : Nat) (l2 : List Int) (A3 : Option Addr) (c3 : Nat) (l3 : List S58) (A4 : Option Addr) (c4 : Nat) (l4 : List Int)
    (hC1 : Kd.C k58 w0 A1 l1.length l1) (hl1 : l1.length ≤ 1000000000000000) (ho1 : ∀ o ∈ l1, OpPre o)
    (hC2 : Kd.C (Kd.int .i64) w0 A2 l2.length l2) (hlc2 : l2.length ≤ c2) (hp2 : ∀ x ∈ l2, -9223372036854775808 ≤ x ∧ x ≤ 9223372036854775807)
    (hC3 : Kd.C k58 w0 A3 l3.length l3) (hl3 : l3.length ≤ 1000000000000000) (ho3 : ∀ o ∈ l3, OpPre o) :
    Calls Try.prog 5 #[.agg #[.slice A1 l1.length c1, .int .i64 off, .slice A2 l2.length c2, .slice A3 l3.length c3, .slice A4 l4.length c4]] w0 fun e w' => e = .returned (.bool true) ∧ Below w0.heap.size w0 w' := by
  have HF1 := Lib.hid (fun w (hb : Below w0.heap.size w0 w) => few_walk w0 w hb A1 c1 l1 hC1 hl1)
  have HF3 := Lib.hid (fun w (hb : Below w0.heap.size w0 w) => few_walk w0 w hb A3 c3 l3 hC3 hl3)
  have HO1 := Lib.hid (fun (o : S58) (h : o ∈ fewOps l1) => few_op ho1 h)
  have HO3 := Lib.hid (fun (o : S58) (h : o ∈ fewOps l3) => few_op ho3 h)
  have HCR := Lib.hid (fun (own : Own) (w : World) (kd : Nat) (blk : Nat → Nat) (d : Dk) (h : Rep own w kd blk d) (B : Nat) (ho : On d B) (hB : B ≤ 1000000000) (hb : Below w0.heap.size w0 w) => crash_walk own w kd blk d h ho.inv B ho.bd hB w0 hb A2 c2 l2 hC2 hlc2 hp2)
  have HOW := Lib.hid open_walk
  clear hC1 hC2 hC3 ho1 ho3 hp2 hlc2
  go_enter Try.func5, Try.ntmps5
  go_upto_region 1 with (fail)
  obtain ⟨wb, hwb⟩ : ∃ wb, w0.alloc (.cells #[.slice A1 l1.length c1, .int .i64 off, .slice A2 l2.length c2, .slice A3 l3.length c3, .slice A4 l4.length c4] 65) = wb := ⟨_, rfl⟩
  obtain ⟨H0, hH0⟩ : ∃ H, w0.heap.size = H := ⟨_, rfl⟩
  have hbb : Below w0.heap.size w0 wb := hwb ▸ below_alloc (Below.refl _ _) _
  have hnb : wb.heap[H0]? = some (.cells #[.slice A1 l1.length c1, .int .i64 off, .slice A2 l2.length c2, .slice A3 l3.length c3, .slice A4 l4.length c4] 65 (0, 0)) := by rw [← hwb, ← hH0]; exact blk_new w0 _
  have hszb : H0 < wb.heap.size := by rw [← hwb, ← hH0]; simp
  rw [hwb, hH0]
  have n0 := blk_cell hnb 0
  simp at n0
  have HBB := Lib.hid hbb
  have HH0 := Lib.hid hH0
  have HNB := Lib.hid hnb
  clear hwb hbb hnb hH0
  go_wp2_with fail
  refine (HOW.out _).mono ?_
  rintro e w2 ⟨kd, own, blk, rfl, hr2, hb2, hn2⟩
  have HR2 := Lib.hid hr2
  have HB2 := Lib.hid hb2
  have n0b := pw_cell_below hb2 n0
  have hb02 : Below w0.heap.size w0 w2 := HBB.out.trans (hb2.mono HBB.out.size)
  have hown0 : ∀ k, k < wb.heap.size → own k = none := fun k hk => by
    cases e : own k with
    | none => rfl
    | some x => have h9 := hn2 k x e; omega
  have HOWN0 := Lib.hid hown0
  have HFW := Lib.hid (HF1.out w2 hb02)
  have HB02 := Lib.hid hb02
  clear hr2 hb2 hn2 n0 hown0 hb02
  unfold ptr
  go_wp2_with (first | (go_at_call 24; refine HFW.out.mono ?_; rintro e w3 ⟨v6, rfl, hr3, hb3⟩; obtain ⟨A6, c6, rfl⟩ := Kd.R_slice hr3; have HR3 := Lib.hid hr3; have HB3 := Lib.hid hb3; clear hr3 hb3))
  obtain ⟨ops, hops⟩ : ∃ ops, fewOps l1 = ops := ⟨_, rfl⟩
  have hlen := fewOps_len l1
  rw [hops] at HR3 HO1 hlen ⊢
  have HRP := Lib.hid (HR2.out.below HB3.out)
  have HKEEP := Lib.hid (fun (own' : Own) (W : World) (hf : Fr own own' w3 W) => R_keep HR3.out HR2.out.above hf)
  have HB03 := Lib.hid (HB02.out.trans (HB3.out.mono HB02.out.size))
  have HSZ := Lib.hid (Nat.le_trans HB2.out.size HB3.out.size)
  clear hops n0b
  have HBOX := Lib.hid (fun (own' : Own) (W : World) (hf : Fr own own' w3 W) => (hf.block H0 (Nat.lt_of_lt_of_le hszb HSZ.out) (HOWN0.out H0 hszb)).trans (blk_below (blk_below HNB.out HB2.out) HB3.out))
  have HAT := Lib.hid (fun (own' : Own) (W : World) (hf : Fr own own' w3 W) => (⟨HB03.out.trans (hf.below HB03.out.size (fun k hk => HOWN0.out k (Nat.lt_of_lt_of_le hk HBB.out.size))), fun k hk => hf.new k (Nat.lt_of_lt_of_le hk HB03.out.size) (HOWN0.out k (Nat.lt_of_lt_of_le hk HBB.out.size))⟩ : Below w0.heap.size w0 W ∧ ∀ k, k < w0.heap.size → own' k = none))
  go_loopw [5] (fun v5 wr => ∃ (i : Nat) (d : Dk) (own1 : Own) (blk1 : Nat → Nat), i ≤ ops.length ∧ v5 = .int .i64 i ∧ Wide d (i * 4100) ∧ Rep own1 wr kd blk1 d ∧ Fr own own1 w3 wr) (fun v5 _ => ops.length - (RowKit.intOf v5).toNat)
  case atStart => exact ⟨0, Dk.new 67108864, own, blk, Nat.zero_le _, rfl, Wide.start, HRP.out, Fr.refl _ _⟩
  case round =>
    obtain ⟨i, d, own1, blk1, hi, rfl, hI, hr, hf⟩ := hrel
    have HI := Lib.hid hI
    have HR := Lib.hid hr
    have HFI := Lib.hid hf
    clear hI hr hf
    by_cases hlt : i < ops.length
    · have qi0 : (0 : Int) ≤ (i : Int) := by omega
      have qi1 : (i : Int) < (ops.length : Int) := by omega
      obtain ⟨ad, A5, c5, A9, c9, hA6, g0, g1, g2, g3, g4, g5, g6, g7, g8, g9, l5, C5, l9, C9⟩ := op_at (Kd.R_reads' (HKEEP.out own1 wr HFI.out)).2.2 i hlt
      obtain ⟨hook, hk16, hlen5⟩ := HO1.out ops[i] (List.getElem_mem hlt)
      obtain ⟨o, ho⟩ : ∃ o, ops[i] = o := ⟨_, rfl⟩
      rw [ho] at g0 g1 g2 g3 g4 g5 g6 g7 g8 g9 l5 C5 l9 C9 hook hk16 hlen5
      subst hA6
      obtain ⟨hb0r, hown1⟩ := HAT.out own1 wr HFI.out
      have HPL := Lib.hid (play_op own1 wr kd blk1 d HR.out HI.out.on.inv.ok _ HI.out.on.bd (by omega) o hook A5 c5 A9 c9 (Out.of_in C5 hb0r hown1) hk16)
      unfold opV ptr at HPL
      clear ho C5 C9 hook hk16 l9 l5 hb0r hown1
      go_wp2_with (first | (go_at_call 26; refine HPL.out.mono ?_; rintro e w6 ⟨rfl, own2, blk2, hr6, hf6⟩; have HR6 := Lib.hid hr6; have HF6 := Lib.hid hf6; clear hr6 hf6))
      go_roundw
      case rel => exact ⟨i + 1, _, own2, blk2, by omega, by go_num, HI.out.play (opOf o) (by show (toBy o.f5).length ≤ 4096; rw [toBy_len]; omega), HR6.out, HFI.out.trans HF6.out⟩
      case measure => simp [RowKit.intOf]; omega
    · have hib : i = ops.length := by omega
      have kc := fun (w : World) (C : Array Value) (n c : Nat) => Lib.run_convert_bytes_const (P := Try.prog) w 26 5 C n c Try.underlying26 Try.underlying5
      have hi200 : i ≤ 200 := by omega
      have qi1 : ¬ (i : Int) < (ops.length : Int) := by omega
      have hbl : Below wr.heap.size wr (wr.alloc (.cells #[.int .u8 98, .int .u8 121, .int .u8 116, .int .u8 101, .int .u8 115] 5 (5, 6))) := below_alloc (Below.refl _ _) _
      have HBL := Lib.hid hbl
      have hpl : Calls Try.prog 26 #[.pointer (some ⟨kd, 0, none⟩), .agg #[.int .i64 1, .int .i64 0, .int .i64 0, .string ⟨#[115, 97, 102, 101]⟩, .string ⟨#[]⟩, .slice (some ⟨wr.heap.size, 0, none⟩) 5 5, .int .i64 0, .int .i64 0, .int .i64 0, .slice none 0 0]] (wr.alloc (.cells #[.int .u8 98, .int .u8 121, .int .u8 116, .int .u8 101, .int .u8 115] 5 (5, 6))) (Ends own1 (wr.alloc (.cells #[.int .u8 98, .int .u8 121, .int .u8 116, .int .u8 101, .int .u8 115] 5 (5, 6))) kd (d.play (opOf safeOp))) :=
        play_op own1 _ kd blk1 d (HR.out.below hbl) HI.out.on.inv.ok _ HI.out.on.bd (by omega) safeOp safeOp_ok (some ⟨wr.heap.size, 0, none⟩) 5 none 0 (Out.new HR.out.lt rfl (by decide)) (by decide)
      have HPL := Lib.hid hpl
      have hne : (d.play (opOf safeOp)).1.names ≠ [] := by rw [play_one rfl]; exact safe_there HI.out.on HI.out.pf HI.out.room (by omega) fair_safe (by decide)
      have hon6 : On (d.play (opOf safeOp)).1 900000 := (HI.out.play (opOf safeOp) (by decide)).on.mono (by omega)
      obtain ⟨d6, hd6⟩ : ∃ d6, (d.play (opOf safeOp)).1 = d6 := ⟨_, rfl⟩
      rw [hd6] at hne hon6
      have HNE := Lib.hid hne
      have HON6 := Lib.hid hon6
      have HD6 := Lib.hid hd6
      clear hbl hpl hne hon6 hd6 hib
      go_upto_region 10 with (first | (go_at_call 26; refine HPL.out.mono ?_; rintro e w6 ⟨rfl, own2, blk2, hr6, hf6⟩; rw [HD6.out] at hr6; have HR6 := Lib.hid hr6; have HF6 := Lib.hid ((HFI.out.trans (Fr.of_below HBL.out)).trans hf6); clear hr6 hf6))
      have HAS := Lib.hid (allSafe_walk own2 w6 kd blk2 d6 HR6.out _ HON6.out (by omega))
      unfold ptr at HAS
      clear HPL HBL HRP HR kc
      obtain ⟨s, hs⟩ : ∃ s, d6.allSafe = s := ⟨_, rfl⟩
      have hon7 : On s 900200 := hs ▸ HON6.out.allSafe
      have hgr7 : Grow s s := hs ▸ Grow.start HON6.out
      have hnm7 : s.names ≠ [] := by
        rw [← hs, allSafe_names HON6.out]; exact HNE.out
      rw [hs] at HAS
      have HON7 := Lib.hid hon7
      have HGR7 := Lib.hid hgr7
      have HNM7 := Lib.hid hnm7
      clear hs hon7 hgr7 hnm7
      go_upto_region 12 with (first | (go_at_call 30; refine HAS.out.mono ?_; rintro e w7 ⟨rfl, own3, blk3, hr7, hf7⟩; have HR7 := Lib.hid hr7; have HF7 := Lib.hid (HF6.out.trans hf7); clear hr7 hf7))
      have HSN := Lib.hid (seen_walk own3 w7 kd blk3 s HR7.out HON7.out.inv.ok HON7.out.inv.fa _ HON7.out.bd (by omega) HON7.out.off)
      unfold ptr at HSN
      obtain ⟨I, hI⟩ : ∃ I, s.image = I := ⟨_, rfl⟩
      have HIM := Lib.hid hI
      rw [hI] at HSN
      clear hI HAS HNE HON6 HD6 HR6
      go_upto_region 13 with (first | (go_at_call 25; refine HSN.out.mono ?_; rintro e w8 ⟨v8, rfl, hr8, hb8⟩; obtain ⟨A8, c8, rfl⟩ := Kd.R_slice hr8; rw [List.length_map] at hr8; have HR8 := Lib.hid hr8; have HB8 := Lib.hid hb8; clear hr8 hb8))
      have HF8 := Lib.hid (HF7.out.trans (Fr.of_below HB8.out))
      have HR8' := Lib.hid (HR7.out.below HB8.out)
      have HKI := Lib.hid (fun (own' : Own) (W : World) (hf : Fr own3 own' w8 W) => R_keep HR8.out HR7.out.above hf)
      have n3 := blk_cell (HBOX.out own3 w8 HF8.out) 3
      simp at n3
      have HFW3 := Lib.hid (HF3.out w8 (HAT.out own3 w8 HF8.out).1)
      clear HSN HR8 HR7
      go_wp2_with (first | (go_at_call 24; refine HFW3.out.mono ?_; rintro e w9 ⟨v9, rfl, hr9, hb9⟩; obtain ⟨A9, c9, rfl⟩ := Kd.R_slice hr9; have HR9 := Lib.hid hr9; have HB9 := Lib.hid hb9; clear hr9 hb9))
      obtain ⟨more, hmore⟩ : ∃ more, fewOps l3 = more := ⟨_, rfl⟩
      have hlenm := fewOps_len l3
      rw [hmore] at HR9 HO3 hlenm ⊢
      have HRP := Lib.hid (HR8'.out.below HB9.out)
      have HKM := Lib.hid (fun (own' : Own) (W : World) (hf : Fr own3 own' w9 W) => R_keep HR9.out HR8'.out.above hf)
      have HF9 := Lib.hid (HF8.out.trans (Fr.of_below HB9.out))
      have HF89 := Lib.hid (Fr.of_below (own := own3) HB9.out)
      clear hmore n3 HR9 HR8' HB9 HFW3
      go_loopw [8] (fun v8 wr => ∃ (i : Nat) (d : Dk) (own1 : Own) (blk1 : Nat → Nat), i ≤ more.length ∧ v8 = .int .i64 i ∧ On d (1000000 + i * 4100) ∧ Grow s d ∧ Rep own1 wr kd blk1 d ∧ Fr own3 own1 w9 wr) (fun v8 _ => more.length - (RowKit.intOf v8).toNat)
      case atStart => exact ⟨0, s, own3, blk3, Nat.zero_le _, rfl, HON7.out.mono (by omega), HGR7.out, HRP.out, Fr.refl _ _⟩
      case round =>
        obtain ⟨i, d, own1, blk1, hi, rfl, hI, hG, hr, hf⟩ := hrel
        have HI := Lib.hid hI
        have HG := Lib.hid hG
        have HR := Lib.hid hr
        have HFI := Lib.hid hf
        have HFA := Lib.hid (HF9.out.trans hf)
        clear hI hG hr hf
        by_cases hlt : i < more.length
        · have qi0 : (0 : Int) ≤ (i : Int) := by omega
          have qi2 : (i : Int) < (more.length : Int) := by omega
          obtain ⟨ad, A5, c5, A9, c9, hA6, g0, g1, g2, g3, g4, g5, g6, g7, g8, g9, l5, C5, l9, C9⟩ := op_at (Kd.R_reads' (HKM.out own1 wr HFI.out)).2.2 i hlt
          obtain ⟨hook, hk16, hlen5⟩ := HO3.out more[i] (List.getElem_mem hlt)
          obtain ⟨o, ho⟩ : ∃ o, more[i] = o := ⟨_, rfl⟩
          rw [ho] at g0 g1 g2 g3 g4 g5 g6 g7 g8 g9 l5 C5 l9 C9 hook hk16 hlen5
          subst hA6
          obtain ⟨hb0r, hown1⟩ := HAT.out own1 wr HFA.out
          have HPL := Lib.hid (play_op own1 wr kd blk1 d HR.out HI.out.inv.ok _ HI.out.bd (by omega) o hook A5 c5 A9 c9 (Out.of_in C5 hb0r hown1) hk16)
          unfold opV ptr at HPL
          clear ho C5 C9 hook hk16 l9 l5 hb0r hown1
          by_cases h1 : o.f0 = 1
          · rw [h1] at g0 HPL
            have hpl := play_one (d := d) h1
            have hon2 := (HI.out.play (opOf o)).mono (C := 1000000 + (i + 1) * 4100) (by
              have h9 : (opOf o).b.length = o.f5.length := toBy_len o.f5
              omega)
            rw [hpl] at hon2 HPL
            have hg2 := HG.out.append HON7.out.inv HI.out.inv o.f3 (toBy o.f5)
            clear hpl h1
            go_wp2_with (first | (go_at_call 26; refine HPL.out.mono ?_; rintro e w10 ⟨rfl, own2, blk2, hr6, hf6⟩; have HR6 := Lib.hid hr6; have HF6 := Lib.hid hf6; clear hr6 hf6))
            go_roundw
            case rel => exact ⟨i + 1, _, own2, blk2, by omega, by go_num, hon2, hg2, HR6.out, HFI.out.trans HF6.out⟩
            case measure => simp [RowKit.intOf]; omega
          · go_wp2_with fail
            go_roundw
            case rel => exact ⟨i + 1, d, own1, blk1, by omega, by go_num, HI.out.mono (by omega), HG.out, HR.out, HFI.out⟩
            case measure => simp [RowKit.intOf]; omega
        · have qi2 : ¬ (i : Int) < (more.length : Int) := by omega
          have hi3 : i ≤ 200 := by omega
          have hon10 : On d 2000000 := HI.out.mono (by omega)
          have HON := Lib.hid hon10
          have HSN := Lib.hid (fun w' (hb : Below wr.heap.size wr w') => seen_walk own1 w' kd blk1 d (HR.out.below hb) HON.out.inv.ok HON.out.inv.fa _ HON.out.bd (by omega) HON.out.off)
          unfold ptr at HSN
          obtain ⟨J, hJ⟩ : ∃ J, d.image = J := ⟨_, rfl⟩
          have HJM := Lib.hid hJ
          rw [hJ] at HSN
          clear hJ
          obtain ⟨L, hL⟩ : ∃ L, d.crash l2 = L := ⟨_, rfl⟩
          have hfirst := HG.out.first HON7.out.inv HON.out.inv l2
          have hsecond := HG.out.second HON7.out.inv HON.out.inv l2
          have hlenL := HG.out.crash_len HON7.out.inv HON.out l2
          have hlenJ := img_len HON.out
          have hlenI := img_len HON7.out
          have hI64 := img_64 HON7.out
          have hJ64 := img_64 HON.out
          have hL64 := crash_64 HON.out l2
          have hIpos : 0 < I.length := by
            rw [← HIM.out]; unfold Dk.image; rw [List.length_map]
            exact List.length_pos_iff.2 HNM7.out
          rw [hL, HIM.out] at hfirst
          rw [hL, HJM.out] at hsecond
          rw [hL] at hlenL hL64
          rw [HJM.out] at hlenJ hJ64
          rw [HIM.out] at hlenI hI64
          have HFIRST := Lib.hid hfirst
          have HSECOND := Lib.hid hsecond
          have HLL := Lib.hid hlenL
          have HLJ := Lib.hid hlenJ
          have HLI := Lib.hid hlenI
          have hCI := R_img (HKI.out own1 wr (HF89.out.trans HFI.out))
          have HCI := Lib.hid hCI
          have n2 := blk_cell (HBOX.out own1 wr HFA.out) 2
          simp at n2
          have hci := hCI.2
          clear hfirst hsecond hlenL hlenJ hlenI hCI hi hlt
          obtain ⟨wo, hwo⟩ : ∃ wo : World, wo = wr := ⟨_, rfl⟩
          subst hwo
          go_upto_region 20 with (first | (go_at_call 25; refine (HSN.out _ (Below.refl _ _)).mono ?_; rintro e w11 ⟨v11, rfl, hr11, hb11⟩; obtain ⟨A11, c11, rfl⟩ := Kd.R_slice hr11; rw [List.length_map] at hr11; have HR11 := Lib.hid hr11; have HB11 := Lib.hid hb11; clear hr11 hb11))
          have n2b := pw_cell_below HB11.out n2
          have HCRW := Lib.hid (HCR.out own1 w11 kd blk1 d (HR.out.below HB11.out) 2000000 HON.out (by omega) (HAT.out own1 w11 (HFA.out.trans (Fr.of_below HB11.out))).1)
          rw [hL] at HCRW
          unfold ptr at HCRW
          clear n2 hL
          go_wp2_with (first | (go_at_call 21; refine HCRW.out.mono ?_; rintro e w12 ⟨v12, rfl, hr12, hb12⟩; obtain ⟨A12, c12, rfl⟩ := Kd.R_slice hr12; rw [List.length_map] at hr12; have HR12 := Lib.hid hr12; have HB12 := Lib.hid hb12; clear hr12 hb12))
          have HB12' := Lib.hid (HB11.out.trans (HB12.out.mono HB11.out.size))
          have h9 := HCI.out
          have HCI12 := Lib.hid (Kd.C_below h9.1 HB12'.out)
          have hj9 := R_img HR11.out
          have HCJ12 := Lib.hid (Kd.C_below hj9.1 HB12.out)
          have hcj := hj9.2
          have hl9 := R_img HR12.out
          have HCL12 := Lib.hid hl9.1
          have hcl := hl9.2
          clear h9 hj9 hl9 n2b HCRW HR11 HR12
          go_loopw [11] (fun v11 wr => ∃ k : Nat, k ≤ I.length ∧ v11 = .int .i64 k ∧ Below w12.heap.size w12 wr) (fun v11 _ => I.length - (RowKit.intOf v11).toNat)
          case atStart => exact ⟨0, Nat.zero_le _, rfl, Below.refl _ _⟩
          case round =>
            obtain ⟨k, hk, rfl, hb⟩ := hrel
            have HB := Lib.hid hb
            by_cases hkl : k < I.length
            · have qk0 : (0 : Int) ≤ (k : Int) := by omega
              have qk1 : (k : Int) < (I.length : Int) := by omega
              obtain ⟨ad, A1', c1', hA8, g0, g1, g2, g3⟩ := img_at (Kd.C_below HCI12.out hb) k hkl
              obtain ⟨b, hb1, hb2⟩ := HFIRST.out I[k] (List.getElem_mem hkl)
              have hbl := HLL.out _ (imgFind_mem _ _ _ hb1)
              have hil := HLI.out _ (List.getElem_mem hkl)
              have HFD := Lib.hid (imgfind_walk L I[k].1 A12 c12 wr (Kd.C_below HCL12.out hb) (by omega))
              rw [hb1] at HFD
              obtain ⟨x, hx⟩ : ∃ x, I[k] = x := ⟨_, rfl⟩
              rw [hx] at g0 g1 g2 g3 hb2 hil HFD
              obtain ⟨xn, xb⟩ := x
              simp only [Option.getD_some, Option.isSome_some] at g0 g1 g2 g3 hb2 hil HFD
              subst hA8
              have HG3 := Lib.hid g3
              have HB2 := Lib.hid hb2
              clear g3 hb2 hx hb1 hb
              go_upto_region 25 with (first | (go_at_call 27; refine HFD.out.mono ?_; rintro e wr ⟨A13, c13, rfl, hl13, hc13, rfl⟩; have HC13 := Lib.hid hc13; clear hc13))
              have HBG := Lib.hid (begins_walk b xb A1' A13 c1' c13 wr (by have h8 := HC13.out; rw [ints_length] at h8; exact h8) hl13 (by have h8 := HG3.out; rw [ints_length] at h8; exact h8) g2 (by omega))
              rw [HB2.out] at HBG
              go_wp2_with (first | (go_at_call 31; refine HBG.out.mono ?_; rintro e w13 ⟨rfl, m13, hw13⟩; have HB13 := Lib.hid (hw13 ▸ below_drewN' _ m13); clear hw13))
              go_roundw
              case rel => exact ⟨k + 1, by omega, by go_num, HB.out.trans (HB13.out.mono HB.out.size)⟩
              case measure => simp [RowKit.intOf]; omega
            · have qk1 : ¬ (k : Int) < (I.length : Int) := by omega
              clear hb
              obtain ⟨wp, hwp⟩ : ∃ wp : World, wp = wr := ⟨_, rfl⟩
              subst hwp
              go_wp2_with fail
              go_loopw [14] (fun v14 wr => ∃ j : Nat, j ≤ L.length ∧ v14 = .int .i64 j ∧ Below w12.heap.size w12 wr) (fun v14 _ => L.length - (RowKit.intOf v14).toNat)
              case atStart => exact ⟨0, Nat.zero_le _, rfl, HB.out⟩
              case round =>
                obtain ⟨j, hj, rfl, hb⟩ := hrel
                have HB := Lib.hid hb
                by_cases hjl : j < L.length
                · have qj0 : (0 : Int) ≤ (j : Int) := by omega
                  have qj1 : (j : Int) < (L.length : Int) := by omega
                  obtain ⟨ad, A1', c1', hA8, g0, g1, g2, g3⟩ := img_at (Kd.C_below HCL12.out hb) j hjl
                  obtain ⟨b, hb1, hb2⟩ := HSECOND.out L[j] (List.getElem_mem hjl)
                  have hbl := HLJ.out _ (imgFind_mem _ _ _ hb1)
                  have hil := HLL.out _ (List.getElem_mem hjl)
                  have HFD := Lib.hid (imgfind_walk J L[j].1 A11 c11 wr (Kd.C_below HCJ12.out hb) (by omega))
                  rw [hb1] at HFD
                  obtain ⟨x, hx⟩ : ∃ x, L[j] = x := ⟨_, rfl⟩
                  rw [hx] at g0 g1 g2 g3 hb2 hil HFD
                  obtain ⟨xn, xb⟩ := x
                  simp only [Option.getD_some, Option.isSome_some] at g0 g1 g2 g3 hb2 hil HFD
                  subst hA8
                  have HG3 := Lib.hid g3
                  have HB2 := Lib.hid hb2
                  clear g3 hb2 hx hb1 hb
                  go_upto_region 31 with (first | (go_at_call 27; refine HFD.out.mono ?_; rintro e wr ⟨A13, c13, rfl, hl13, hc13, rfl⟩; have HC13 := Lib.hid hc13; clear hc13))
                  have HBG := Lib.hid (begins_walk b xb A1' A13 c1' c13 wr (by have h8 := HC13.out; rw [ints_length] at h8; exact h8) hl13 (by have h8 := HG3.out; rw [ints_length] at h8; exact h8) g2 (by omega))
                  rw [HB2.out] at HBG
                  go_wp2_with (first | (go_at_call 31; refine HBG.out.mono ?_; rintro e w13 ⟨rfl, m13, hw13⟩; have HB13 := Lib.hid (hw13 ▸ below_drewN' _ m13); clear hw13))
                  go_roundw
                  case rel => exact ⟨j + 1, by omega, by go_num, HB.out.trans (HB13.out.mono HB.out.size)⟩
                  case measure => simp [RowKit.intOf]; omega
                · have qj1 : ¬ (j : Int) < (L.length : Int) := by omega
                  clear hb
                  obtain ⟨wq, hwq⟩ : ∃ wq : World, wq = wr := ⟨_, rfl⟩
                  subst hwq
                  have hJb : J.length < 1000 := by omega
                  go_upto_region 33 with (fail)
                  clear hl1 hl3 hlen hlenm hi200 hi3 qj1 qk1 hjl hkl hk hj
                  go_upto_region 34 with (first | (at_make; go_loud (refine Kd.R_make (Kd.int .i64) (w0 := wq) wq.heap.size 3 rfl rfl 23 (.tmp 132) (.tmp 132) rfl ((J.length : Int) + 1) rfl rfl Try.underlying23 (.int .i64 0) 8 info3 rfl (by decide) (by decide) (0 : Int) (okp := fun _ => False) (ok := fun k => wq.heap.size ≤ k) rfl (fun _ hk => hk.elim) (Nat.le_refl _) (by omega) (by omega) (Below.refl _ _) (Nat.le_refl _) ?_; intro v17 w17 hr17 hb17 hg17 hv17; have HR17 := Lib.hid hr17; have HB17 := Lib.hid hb17; have HV17 := Lib.hid hv17; clear hr17 hb17 hv17 hg17)))
                  obtain ⟨g, cap, rfl⟩ := row_at HR17.out HV17.out
                  obtain ⟨N, hN⟩ : ∃ N : Nat, J.length + 1 = N := ⟨_, rfl⟩
                  have hN2 : ((J.length : Int) + 1).toNat = N := by omega
                  have hNb : N ≤ 1000 := by omega
                  have HNN := Lib.hid hN
                  rw [hN2, List.length_replicate] at HR17 ⊢
                  clear hJb hN2 hN
                  go_wp2_with fail
                  go_loopw [18] (fun v18 wr => ∃ t : Nat, t ≤ N ∧ v18 = .int .i64 t ∧ Kd.R (Kd.int .i64) 3 wr wq.heap.size (fun k => wq.heap.size ≤ k) (.slice (some ⟨g, 0, none⟩) N cap) (List.replicate t (-1) ++ List.replicate (N - t) 0) ∧ Below wq.heap.size wq wr) (fun v18 _ => N - (RowKit.intOf v18).toNat)
                  case atStart => exact ⟨0, Nat.zero_le _, rfl, HR17.out, HB17.out⟩
                  case round =>
                    obtain ⟨t, ht, rfl, hr, hb⟩ := hrel
                    have HRT := Lib.hid hr
                    have HBT := Lib.hid hb
                    by_cases htl : t < N
                    · have qt0 : (0 : Int) ≤ (t : Int) := by omega
                      have qt1 : (t : Int) < (N : Int) := by omega
                      have hcell := zero_at hr htl
                      clear hr hb
                      go_wp2_with (first | (refine gate_ (.store 3 (.tmp 142) (.const (.int .i64 (-1)))) rfl ?_; refine Kd.R_store (Kd.int .i64) (w0 := wq) wq.heap.size rfl rfl 3 (.tmp 142) (.const (.int .i64 (-1))) rfl 3 (t : Int) 0 (List.replicate t (-1) ++ List.replicate (N - t) 0) (-1) (.int .i64 (-1)) [.int .i64 (-1)] [.int .i64 0] (fun k => wq.heap.size ≤ k) (fun _ => False) (g := g) (o' := t) rfl (by rw [Int.toNat_natCast]; exact (Nat.mul_one t).symm) rfl rfl (by kernel_rfl) (fun q hq => by rw [List.mem_singleton.1 hq]; rfl) HRT.out (by omega) (by omega) rfl (fun j u hj => by rw [Int.toNat_natCast]; exact hcell j u hj) (by decide) rfl (fun _ hk => hk.elim) HBT.out ?_; intro w19 hr19 hb19 hg19; have HR19 := Lib.hid hr19; have HB19 := Lib.hid hb19; clear hr19 hb19 hg19))
                      go_roundw
                      case rel => exact ⟨t + 1, by omega, by go_num, by have h9 := HR19.out; rw [Int.toNat_natCast, set_rep t N htl] at h9; exact h9, HB19.out⟩
                      case measure => simp [RowKit.intOf]; omega
                    · have htN : t = N := by omega
                      rw [htN, Nat.sub_self, List.replicate_zero, List.append_nil] at hr
                      have qt1 : ¬ (t : Int) < (N : Int) := by omega
                      have hrr := Kd.R_reads' hr
                      rw [List.length_replicate] at hrr
                      have HCA := Lib.hid hrr.2.2
                      have hcap := hrr.2.1
                      have HCAP := Lib.hid hcap
                      obtain ⟨wz, hwz⟩ : ∃ wz : World, wz = wr := ⟨_, rfl⟩
                      subst hwz
                      have hb1 := HB12'.out.trans ((HB.out.trans (hb.mono HB.out.size)).mono HB12'.out.size)
                      have HBO := Lib.hid hb1
                      have hb2 := HB.out.trans (hb.mono HB.out.size)
                      have HCIz := Lib.hid (Kd.C_below HCI12.out hb2)
                      have HCJz := Lib.hid (Kd.C_below HCJ12.out hb2)
                      have HBZ := Lib.hid (Below.refl wz.heap.size wz)
                      have hcr0 : d.crash [] = I := by rw [HG.out.none_ HON7.out.inv HON.out.inv]; exact HIM.out
                      have hcr1 : d.crash (List.replicate N (-1)) = J := by rw [← HNN.out, ← HJM.out]; exact crash_full HON.out.inv
                      have HC0 := Lib.hid (fun W (hb : Below wz.heap.size wz W) => crash_walk own1 W kd blk1 d (HR.out.below (HBO.out.trans (hb.mono HBO.out.size))) HON.out.inv 2000000 HON.out.bd (by omega) W (Below.refl _ _) none 0 [] (Kd.C_nil _ _) (Nat.le_refl _) (by simp))
                      have HC1 := Lib.hid (fun W (hb : Below wz.heap.size wz W) => crash_walk own1 W kd blk1 d (HR.out.below (HBO.out.trans (hb.mono HBO.out.size))) HON.out.inv 2000000 HON.out.bd (by omega) wz hb (some ⟨g, 0, none⟩) cap (List.replicate N (-1)) (by rw [List.length_replicate]; exact HCA.out) (by rw [List.length_replicate]; exact HCAP.out) (fun x hx => by rw [List.eq_of_mem_replicate hx]; omega))
                      rw [hcr0] at HC0
                      rw [hcr1] at HC1
                      simp only [List.length_replicate] at HC1
                      simp only [List.length_nil] at HC0
                      unfold ptr at HC0 HC1
                      have HSZ2 := Lib.hid (fun W (hb : Below wz.heap.size wz W) => HSN.out W (HBO.out.trans (hb.mono HBO.out.size)))
                      have HI1 := Lib.hid (fun W A c (hA : Kd.C k28 W A I.length (I.map encF) ∧ I.length ≤ c) (hb : Below wz.heap.size wz W) => image_same I A A8 c c8 W hA ⟨Kd.C_below HCIz.out hb, hci⟩ (by omega) (fun x hx => Nat.le_trans (HLI.out x hx) (by omega)))
                      have HJ1 := Lib.hid (fun W A c (hA : Kd.C k28 W A J.length (J.map encF) ∧ J.length ≤ c) (hb : Below wz.heap.size wz W) => image_same J A A11 c c11 W hA ⟨Kd.C_below HCJz.out hb, hcj⟩ (by omega) (fun x hx => Nat.le_trans (HLJ.out x hx) (by omega)))
                      have qI : (0 : Int) < (I.length : Int) := by omega
                      have hIne : I ≠ [] := List.length_pos_iff.1 hIpos
                      have hIne2 : ¬ I = [] := hIne
                      have hIpos2 : 0 < I.length := hIpos
                      have hb0 := (HAT.out own1 wo HFA.out).1
                      have HB0 := Lib.hid (hb0.trans (HBO.out.mono hb0.size))
                      clear hrr hcap hb1 hb2 hcr0 hcr1 hb0 hr hb hci hcj hcl hI64 hJ64 hL64 hNb hIpos htl ht htN hszb
                      go_upto_region 38 with (fail)
                      clear qt1
                      go_wp2_with (first | (go_at_call 21; refine (HC0.out _ HBZ.out).mono ?_; rintro e wx ⟨vx, rfl, hrx, hbx⟩; obtain ⟨Ax, cx, rfl⟩ := Kd.R_slice hrx; rw [List.length_map] at hrx; have HRX := Lib.hid (R_img hrx); have HBZ := Lib.hid (HBZ.out.trans (hbx.mono HBZ.out.size)); clear hrx hbx))
                      go_wp2_with (first | (go_at_call 20; refine (HI1.out _ _ _ HRX.out HBZ.out).mono ?_; rintro e wy ⟨rfl, hby⟩; have HBZ := Lib.hid (HBZ.out.trans (hby.mono HBZ.out.size)); clear hby))
                      go_wp2_with (first | (go_at_call 21; refine (HC1.out _ HBZ.out).mono ?_; rintro e wx ⟨vx, rfl, hrx, hbx⟩; obtain ⟨Ax, cx, rfl⟩ := Kd.R_slice hrx; rw [List.length_map] at hrx; have HRX := Lib.hid (R_img hrx); have HBZ := Lib.hid (HBZ.out.trans (hbx.mono HBZ.out.size)); clear hrx hbx))
                      go_wp2_with (first | (go_at_call 20; refine (HJ1.out _ _ _ HRX.out HBZ.out).mono ?_; rintro e wy ⟨rfl, hby⟩; have HBZ := Lib.hid (HBZ.out.trans (hby.mono HBZ.out.size)); clear hby))
                      go_wp2_with (first | (go_at_call 25; refine (HSZ2.out _ HBZ.out).mono ?_; rintro e wx ⟨vx, rfl, hrx, hbx⟩; obtain ⟨Ax, cx, rfl⟩ := Kd.R_slice hrx; rw [List.length_map] at hrx; have HRX := Lib.hid (R_img hrx); have HBZ := Lib.hid (HBZ.out.trans (hbx.mono HBZ.out.size)); clear hrx hbx))
                      go_wp2_with (first | (go_at_call 20; refine (HJ1.out _ _ _ HRX.out HBZ.out).mono ?_; rintro e wy ⟨rfl, hby⟩; have HBZ := Lib.hid (HBZ.out.trans (hby.mono HBZ.out.size)); clear hby))
                      go_ret
                      exact ⟨rfl, HB0.out.trans (HBZ.out.mono HB0.out.size)⟩
end Go.Proofs.Ytonecajkfbdnmaa.Dk

namespace Go.Proofs.Ytonecajkfbdnmaa.Ds
set_option linter.unusedVariables false
open Go.ChangeShapes Go.WideShapes Go.ChangeAt Go.RowKit Go.Lib Go.Deep Go.Proofs.Ytonecajkfbdnmaa.Dk Go.Proofs.Ytonecajkfbdnmaa.Dw
open Go.Proofs.YtonecajkfbdnmaaW.PrintWords

theorem own : ownKnob Try.prog.godebug = none := by kernel_rfl
set_option maxRecDepth 100000 in
theorem contract (H : Type) (enc : TypeId × Value → H) (W : World) (base : Nat) (args : Array Value) (ds gs : List (DataW H)) (before : List MemPlace)
    (hval : ∀ (j : Nat) t v, Try.f5.params[j]? = some t → args[j]? = some v → Value.okWide Try.prog W .any base t v)
    (hW : DataW.Whole enc Try.prog Try.f5.params.toList Rows.diskSafeSpec.vars false W args.toList ds gs before)
    (hz : (DataW.weightsEach Try.prog (Try.f5.params.toList ++ (OpenSpec.ofChange Rows.diskSafeSpec).bare.plain.varTypes Try.prog) (ds ++ gs)).all (· ≤ reachBytes) = true) :
    Calls Try.prog 5 args W fun e W' => ∃ v, e = .returned v ∧ Rows.diskSafeSpec.post enc Try.prog Try.f5 false true false false W args v W' := by
  have hW' := hW
  have hlt := hW.lt
  obtain ⟨p, q, hA0, hV, rfl, hfz, hnd⟩ := hW
  have hA : DataW.TrodAll enc Try.prog W 0 (fun _ => true) true Try.f5.params.toList args.toList ds p := hA0
  rw [Try.params5] at hA hval hz
  obtain ⟨v0, d0, rfl, rfl, h0⟩ := trodAll_one hA
  obtain ⟨rfl, rfl⟩ := trodVars_none hV
  have hok := hval 0 65 v0 rfl rfl
  clear hA0 hval
  simp only [List.append_nil] at hW' hlt
  have fin : ∀ W', Below W.heap.size W W' → Rows.diskSafeSpec.post enc Try.prog Try.f5 false true false false W #[v0] (.bool true) W' := fun W' bel =>
    ⟨_, _, _, [], _, [], hW', trodAll_mk1 (shut_bool Try.underlying4 _), trodAll_mk1 (Below.trod (by kernel_rfl) (by kernel_rfl) (of_decide_eq_true (by kernel_rfl)) h0 bel hlt), rfl, bel.frame _, fun h => by cases h⟩
  have hwt : ∀ k ∈ d0.weights Try.prog 65, k ≤ reachBytes := fun k hk => by
    have := List.all_eq_true.1 hz k (DataW.weights_mem_each (j := 0) (t := 65) (d := d0) rfl rfl k hk)
    exact of_decide_eq_true this
  have hbig : reachBytes ≤ big := by have := reachBytes_lt; unfold big; omega
  have hR := reachBytes_lt
  obtain ⟨A1, c1, l1, off, A2, c2, l2, A3, c3, l3, A4, c4, l4, hp⟩ := open_power reachBytes hbig hok h0 hwt
  have n1 := hp.n1
  have n3 := hp.n3
  obtain rfl := hp.v
  have walk := diskSafe_walk W A1 c1 l1 off A2 c2 l2 A3 c3 l3 A4 c4 l4 hp.C1 (by omega) hp.o1 hp.C2 hp.c2 hp.p2 hp.C3 (by omega) hp.o3
  refine walk.mono fun e W' ⟨he, bel⟩ => ?_
  subst he
  exact ⟨_, rfl, fin W' bel⟩
theorem witness_row (os : Os) {H : Type} (enc : TypeId × Value → H) :
    (OpenSpec.ofChange Rows.diskSafeSpec).preRow enc Try.prog Try.f5 Rows.diskSafeRow.domain false Rows.diskSafeRow.laid ((World.settled Try.prog os).forCall (fun _ _ => 0) ⟨#[], #[.agg #[.slice none 0 0, .int .i64 0, .slice none 0 0, .slice none 0 0, .slice none 0 0]], []⟩).memory #[.agg #[.slice none 0 0, .int .i64 0, .slice none 0 0, .slice none 0 0, .slice none 0 0]] := by
  have hw : (DataW.whole enc Try.prog ((World.settled Try.prog os).forCall (fun _ _ => 0) ⟨#[], #[.agg #[.slice none 0 0, .int .i64 0, .slice none 0 0, .slice none 0 0, .slice none 0 0]], []⟩).memory Try.f5.params.toList Rows.diskSafeSpec.vars false #[Value.agg #[.slice none 0 0, .int .i64 0, .slice none 0 0, .slice none 0 0, .slice none 0 0]].toList 8).map (fun x => (x.1, x.2.1)) =
      some ([.agg [.nil, .lit (.int .i64 0), .nil, .nil, .nil]], []) := by kernel_rfl
  obtain ⟨⟨x1, x2, x3⟩, hx, hx1⟩ := Option.map_eq_some_iff.1 hw
  simp only [Prod.mk.injEq] at hx1
  obtain ⟨rfl, rfl⟩ := hx1
  exact OpenSpec.preRow_of_cond 8 hx (by kernel_rfl) (fun k hk => by cases hk) (by kernel_rfl) (laidMet_nil _ _)
set_option maxRecDepth 100000 in
set_option maxHeartbeats 2000000 in
theorem lifted (os : Os) (started : os.Started) (H : Type) (enc : TypeId × Value → H) (F : Stop.Interp) :
    ReturnsInHanded {} Try.checked os 5 .any ((OpenSpec.ofChange Rows.diskSafeSpec).preRow enc Try.prog Try.f5 Rows.diskSafeRow.domain false Rows.diskSafeRow.laid) (((OpenSpec.ofChange Rows.diskSafeSpec).at F).post enc Try.prog Try.f5 false true false false) := by
  refine returnsInHanded_of_row (C := Try.checked) (s := OpenSpec.ofChange Rows.diskSafeSpec) own started (by kernel_rfl) Try.func5
    (witness_row_at (enc := enc) (C := Try.checked) false (World.settled Try.prog os) #[.agg #[.slice none 0 0, .int .i64 0, .slice none 0 0, .slice none 0 0, .slice none 0 0]] rfl (by kernel_rfl) (by kernel_rfl) (by kernel_rfl) (witness_row os enc)) ?_
  intro W base args ds gs before hval hW _ _ hz _ _ _
  exact contract H enc W base args ds gs before hval hW hz
theorem said : Rows.DiskSafeSaid :=
  OpenClaim.holds_of_cond 5 Try.f5 rfl rfl rfl rfl rfl rfl rfl ⟨rfl, rfl, rfl, rfl, rfl⟩ rfl rfl rfl rfl rfl (by kernel_rfl) Try.func5 (by kernel_rfl)
    (of_decide_eq_true (by kernel_rfl)) (by unfold Func.isWrapper; first | (rw [if_pos (by decide +kernel)]; kernel_rfl) | (rw [if_neg (by decide +kernel)]; exact ⟨rfl, rfl⟩))
    (fun os started H enc _ F => by rw [OpenClaim.pre_eq_preRow]; exact lifted os started H enc F)
end Go.Proofs.Ytonecajkfbdnmaa.Ds
namespace Go.Proofs.Ytonecajkfbdnmaa
theorem diskSafe_holds : Rows.DiskSafeSaid := Ds.said
#print axioms diskSafe_holds
end Go.Proofs.Ytonecajkfbdnmaa
