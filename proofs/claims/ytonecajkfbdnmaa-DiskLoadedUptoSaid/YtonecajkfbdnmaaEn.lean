/- The walks of Lend, Intact, Over: bytes lent with marks behind them. -/
import Derived.Test.YtonecajkfbdnmaaEz
import Derived.Test.YtonecajkfbdnmaaPDiskLoadedx1
namespace Go.Proofs.Ytonecajkfbdnmaa.Dk
open Go.Lib Go.RowKit Go.ChangeMaps Go.Proofs.Ytonecajkfbdnmaa.Mp Go.Proofs.YtonecajkfbdnmaaW.PrintWords Go.Proofs.YtonecajkfbdnmaaW.PrintLast Go.Proofs.YtonecajkfbdnmaaW.PrintMore Go.Proofs.Ytonecajkfbdnmaa.PDiskRoom Go.Proofs.Ytonecajkfbdnmaa.Dw
set_option linter.unusedVariables false
set_option linter.unusedSimpArgs false
theorem cut_cap {P : Program} (t e : TypeId) (kh : IntKind) {i : TypeInfo} (ht : P.underlying t = some (.slice e)) (hi : P.info? e = some i) (A : Option Addr) (n c : Nat) (j : Int) (h0 : 0 ≤ j) (hm : j ≤ c) :
    ∀ W : World, (Instr.slice t (.slice A n c) none (some (.int kh j)) none).run P W = .ok (.slice A j.toNat c) W := by
  intro W
  have hel : P.elem t = e := by simp [Program.elem, ht]
  have hu : P.underlying t = some (.slice (P.elem t)) := by rw [hel]; exact ht
  have ha : (A.map fun x => x.add 0) = A := by cases A <;> simp [Addr.add]
  rw [run_slice_h W t A n c hu kh j h0 hm, hel]
  simp [sizeOf, typeInfo, hi, sliced, Result.andThen, ha]
def marks3 : List Int := [165, 90, 165]
/-- A row of bytes with its marks behind it. -/
def Lent (w : World) (b cap : Nat) (xs : List Int) : Prop := Kd.R kB 5 w 0 (fun k => k = b) (.slice (some ⟨b, 0, none⟩) (xs.length + 3) cap) (xs ++ marks3)
set_option maxRecDepth 100000 in
set_option maxHeartbeats 4000000 in
theorem lend_walk (xs : List Int) (A : Option Addr) (c : Nat) (w : World) (hC : Kd.C kB w A xs.length xs) (hl : xs.length ≤ 1000000000) :
    Calls Try.prog 36 #[.slice A xs.length c] w fun e w' => ∃ b cap, e = .returned (.slice (some ⟨b, 0, none⟩) xs.length cap) ∧ w.heap.size ≤ b ∧ b < w'.heap.size ∧ Lent w' b cap xs ∧ Below w.heap.size w w' := by
  have HC := Lib.hid hC
  have HR0 := Lib.hid (Kd.R_nil kB 5 w w.heap.size (fun k => w.heap.size ≤ k))
  clear hC
  go_enter Try.func36, Try.ntmps36
  go_upto_region 3 with (first | (at_builtin; refine Kd.R_append_row (Value.int .u8) (0 : Int) (w0 := w) (W := w) w.heap.size rfl (.tmp 4) (.tmp 5) 26 5 (.int .u8 0) 1 rfl Try.underlying26 info5 rfl (by decide) _ [] xs A xs.length c (fun k => w.heap.size ≤ k) rfl rfl (fun k hk => hk) HR0.out HC.out (Below.refl _ _) (Nat.le_refl _) (by simp; omega) ?_; intro v1 w1 hr1 hb1 hg1 hat1; have HR1 := Lib.hid hr1; have HB1 := Lib.hid hb1; clear hr1 hb1 hg1 hat1))
  rw [List.nil_append] at HR1
  obtain ⟨A1, c1, rfl⟩ := Kd.R_slice HR1.out
  have hbm : Below w1.heap.size w1 (w1.alloc (.cells #[.int .u8 165, .int .u8 90, .int .u8 165] 5)) := below_alloc (Below.refl _ _) _
  have HBM := Lib.hid hbm
  have HCM := Lib.hid (show Kd.C kB (w1.alloc (.cells #[.int .u8 165, .int .u8 90, .int .u8 165] 5)) (some ⟨w1.heap.size, 0, none⟩) 3 marks3 from (Out.new (own := fun _ => none) (xs := [165, 90, 165]) (fun _ _ h => by cases h) rfl (by decide)).1)
  have HRM := Lib.hid (Kd.R_below HR1.out hbm)
  have HB2 := Lib.hid (HB1.out.trans (hbm.mono HB1.out.size))
  clear hbm
  obtain ⟨i5, hi5, _, hs5, _⟩ := info_parts info5
  have hq0 : (0 : Int) ≤ (xs.length : Int) := by omega
  go_upto_region 4 with (first | (at_builtin; refine Kd.R_append_row (Value.int .u8) (0 : Int) (w0 := w) (W := w1.alloc (.cells #[.int .u8 165, .int .u8 90, .int .u8 165] 5)) w.heap.size rfl (.tmp 7) (.tmp 8) 26 5 (.int .u8 0) 1 rfl Try.underlying26 info5 rfl (by decide) (.slice A1 xs.length c1) xs marks3 (some ⟨w1.heap.size, 0, none⟩) 3 3 (fun k => w.heap.size ≤ k) rfl rfl (fun k hk => Nat.le_trans HB2.out.size hk) HRM.out HCM.out HB2.out HB2.out.size (by omega) ?_; intro v2 w2 hr2 hb2 hg2 hat2; have HR2 := Lib.hid hr2; have HB3 := Lib.hid hb2; clear hr2 hb2 hg2 hat2))
  have hlen : (xs ++ marks3).length = xs.length + 3 := List.length_append
  obtain ⟨g, cap, rfl, hg1, hg2, _⟩ := Kd.R_form HR2.out (by rw [hlen]; omega)
  rw [hlen]
  have hcapn : xs.length + 3 ≤ cap := by
    have h9 := (Kd.R_reads' HR2.out).2.1
    rw [hlen] at h9; exact h9
  have hsl := cut_cap (P := Try.prog) 26 5 .i64 Try.underlying26 hi5 (some ⟨g, 0, none⟩) (xs.length + 3) cap (xs.length : Int) (by omega) (by omega)
  rw [Int.toNat_natCast] at hsl
  have hrr := HR2.out
  rw [hlen] at hrr
  have hlent : Lent w2 g cap xs := Kd.R_of_own (Kd.own_of_R (Kd.R_lower hrr (Nat.zero_le _))) (fun k hk => by simp [Value.ownBlock] at hk; exact hk.symm)
  have HLENT := Lib.hid hlent
  clear hrr hlent hcapn hi5 hs5
  go_wp2_with fail
  go_ret
  exact ⟨g, cap, rfl, hg1, hg2, HLENT.out, HB3.out⟩
theorem Lent.below {w w' : World} {b cap : Nat} {xs : List Int} (h : Lent w b cap xs) (hb : Below w.heap.size w w') : Lent w' b cap xs := Kd.R_below h hb
theorem Lent.move {w w' : World} {b cap : Nat} {xs : List Int} (h : Lent w b cap xs) (hm : w'.heap[b]? = w.heap[b]?) : Lent w' b cap xs := Kd.R_step h (fun k hk _ => by rw [hk]; exact hm)
theorem Lent.reads {w : World} {b cap : Nat} {xs : List Int} (h : Lent w b cap xs) : Kd.C kB w (some ⟨b, 0, none⟩) (xs ++ marks3).length (xs ++ marks3) ∧ xs.length + 3 ≤ cap := by
  have e : (xs ++ marks3).length = xs.length + 3 := List.length_append
  have h1 : Kd.R kB 5 w 0 (fun k => k = b) (.slice (some ⟨b, 0, none⟩) (xs ++ marks3).length cap) (xs ++ marks3) := by rw [e]; exact h
  have h2 := Kd.R_reads' h1
  exact ⟨h2.2.2, by rw [← e]; exact h2.2.1⟩
theorem Lent.row {w : World} {b cap : Nat} {xs : List Int} (h : Lent w b cap xs) : Kd.C kB w (some ⟨b, 0, none⟩) xs.length xs ∧ xs.length ≤ cap := by
  obtain ⟨h1, h2⟩ := h.reads
  have e : (xs ++ marks3).length = xs.length + 3 := List.length_append
  have h3 := Kd.C_take (m := xs.length) h1 (by rw [e]; omega)
  rw [List.take_left] at h3
  exact ⟨h3, by omega⟩
theorem Lent.lt {w : World} {b cap : Nat} {xs : List Int} (h : Lent w b cap xs) : b < w.heap.size := (R_own_lt h b rfl).2.2
set_option maxRecDepth 100000 in
set_option maxHeartbeats 4000000 in
/-- What was lent and not touched is intact. -/
theorem intact_walk (xs : List Int) (b cap : Nat) (A : Option Addr) (c : Nat) (w : World) (hL : Lent w b cap xs) (hC : Kd.C kB w A xs.length xs) (hl : xs.length ≤ 1000000000) :
    Calls Try.prog 39 #[.slice (some ⟨b, 0, none⟩) xs.length cap, .slice A xs.length c] w fun e w' => e = .returned (.bool true) ∧ Below w.heap.size w w' := by
  obtain ⟨hrow, hcl⟩ := hL.row
  obtain ⟨hall, hcap⟩ := hL.reads
  have cs1 := Kd.C_string (P := Try.prog) (src := 26) (dst := 9) (c := cap) Try.underlying26 Try.underlying5 Try.underlying9 hrow
  have cs2 := Kd.C_string (P := Try.prog) (src := 26) (dst := 9) (c := c) Try.underlying26 Try.underlying5 Try.underlying9 hC
  obtain ⟨i5, hi5, _, hs5, _⟩ := info_parts info5
  have hn3 : (xs.length : Int) + 3 = ((xs.length + 3 : Nat) : Int) := by omega
  have hsl := cut_cap (P := Try.prog) 26 5 .i64 Try.underlying26 hi5 (some ⟨b, 0, none⟩) xs.length cap ((xs.length : Int) + 3) (by omega) (by omega)
  have hsl2 : ((xs.length : Int) + 3).toNat = xs.length + 3 := by omega
  rw [hsl2] at hsl
  have e3 : (xs ++ marks3).length = xs.length + 3 := List.length_append
  obtain ⟨ad, hA, hcell⟩ := C_cells hall (by rw [e3]; omega)
  obtain rfl := Option.some.inj hA
  have m0 : w.cell? ⟨b, xs.length, none⟩ = some (.int .u8 165) := by
    have h9 := hcell xs.length _ (by rw [List.getElem?_map, List.getElem?_append_right (Nat.le_refl _), Nat.sub_self]; rfl)
    have e : (⟨b, 0, none⟩ : Addr).add xs.length = ⟨b, xs.length, none⟩ := by unfold Addr.add; simp; intro h; simp [h]
    rw [e] at h9; exact h9
  have m1 : w.cell? ⟨b, xs.length + 1, none⟩ = some (.int .u8 90) := by
    have h9 := hcell (xs.length + 1) _ (by rw [List.getElem?_map, List.getElem?_append_right (show xs.length ≤ xs.length + 1 by omega), Nat.add_sub_cancel_left]; rfl)
    have e : (⟨b, 0, none⟩ : Addr).add (xs.length + 1) = ⟨b, xs.length + 1, none⟩ := by unfold Addr.add; simp
    rw [e] at h9; exact h9
  have m2 : w.cell? ⟨b, xs.length + 2, none⟩ = some (.int .u8 165) := by
    have h9 := hcell (xs.length + 2) _ (by rw [List.getElem?_map, List.getElem?_append_right (Nat.le_add_right _ _), Nat.add_sub_cancel_left]; rfl)
    have e : (⟨b, 0, none⟩ : Addr).add (xs.length + 2) = ⟨b, xs.length + 2, none⟩ := by unfold Addr.add; simp
    rw [e] at h9; exact h9
  clear hrow hcl hall hcap hC hL hcell hi5 hs5 e3 hn3 hsl2
  go_enter Try.func39, Try.ntmps39
  go_wp2_with fail
  go_ret
  exact ⟨rfl, Below.refl _ _⟩
set_option maxRecDepth 100000 in
set_option maxHeartbeats 4000000 in
theorem over_walk (xs : List Int) (b cap : Nat) (w : World) (hL : Lent w b cap xs) (hl : xs.length ≤ 1000000000) :
    Calls Try.prog 40 #[.slice (some ⟨b, 0, none⟩) xs.length cap] w fun e w' => e = .returned (.tuple #[]) ∧ w.grownBy w' (some b) := by
  have HL := Lib.hid hL
  clear hL
  obtain ⟨N, hN⟩ : ∃ N, xs.length = N := ⟨_, rfl⟩
  have HN := Lib.hid hN
  rw [hN] at hl ⊢
  clear hN
  go_enter Try.func40, Try.ntmps40
  go_wp2_with fail
  go_loopw [2] (fun v2 wr => ∃ (t : Nat) (ys : List Int), t ≤ N ∧ v2 = .int .i64 t ∧ ys.length = N + 3 ∧ Kd.R kB 5 wr 0 (fun k => k = b) (.slice (some ⟨b, 0, none⟩) (N + 3) cap) ys ∧ Below 0 w wr ∧ w.grownBy wr (some b)) (fun v2 _ => N - (RowKit.intOf v2).toNat)
  case atStart => exact ⟨0, xs ++ marks3, Nat.zero_le _, rfl, by rw [List.length_append, HN.out]; rfl, by have h9 := HL.out; unfold Lent at h9; rw [HN.out] at h9; exact h9, Below.refl _ _, World.grownBy.refl _ _⟩
  case round =>
    obtain ⟨t, ys, ht, rfl, hys, hr, hb, hg⟩ := hrel
    have HR := Lib.hid hr
    have HB := Lib.hid hb
    have HG := Lib.hid hg
    have HYS := Lib.hid hys
    by_cases htl : t < N
    · have qt0 : (0 : Int) ≤ (t : Int) := by omega
      have qt1 : (t : Int) < (N : Int) := by omega
      have hr2 : Kd.R kB 5 wr 0 (fun k => k = b) (.slice (some ⟨b, 0, none⟩) ys.length cap) ys := by rw [hys]; exact hr
      obtain ⟨ad, hA, hcell⟩ := C_cells (Kd.R_reads' hr2).2.2 (by omega)
      obtain rfl := Option.some.inj hA
      have hc0 : wr.cell? ⟨b, t, none⟩ = some (.int .u8 (ys[t]'(by omega))) := by
        have h9 := hcell t _ (by rw [List.getElem?_map, List.getElem?_eq_getElem (by omega)]; rfl)
        have e : (⟨b, 0, none⟩ : Addr).add t = ⟨b, t, none⟩ := by unfold Addr.add; simp; intro h; simp [h]
        rw [e] at h9; exact h9
      obtain ⟨y, hy⟩ : ∃ y, ys[t]'(by omega) = y := ⟨_, rfl⟩
      rw [hy] at hc0
      have hcc : ∀ (j : Nat) (u : Value), [Value.int .u8 y][j]? = some u → wr.cell? ⟨b, (t : Int).toNat * kB.sz + j, none⟩ = some u := by
        intro j u hj
        rw [Int.toNat_natCast]
        match j, hj with
        | 0, hj =>
          obtain rfl := Option.some.inj hj
          rw [show t * kB.sz + 0 = t from by show t * 1 + 0 = t; omega]
          exact hc0
      have HCC := Lib.hid hcc
      have hlt3 : (t : Int) < ((N + 3 : Nat) : Int) := by omega
      clear hr hb hg hr2 hcell hc0 hy hys hcc
      go_wp2_with (first | (refine gate_ (.store 5 (.tmp 11) (.const (.int .u8 238))) rfl ?_; refine Kd.R_store kB (w0 := w) 0 rfl rfl 5 (.tmp 11) (.const (.int .u8 238)) rfl 5 (n := N + 3) (t : Int) 0 ys 238 (.int .u8 238) [.int .u8 238] [.int .u8 y] (fun k => k = b) (fun _ => False) (g := b) (o' := t) rfl (by rw [Int.toNat_natCast]; exact (Nat.mul_one t).symm) rfl rfl (by kernel_rfl) (fun q hq => by rw [List.mem_singleton.1 hq]; rfl) HR.out qt0 hlt3 rfl HCC.out (by decide) rfl (fun _ hk => hk.elim) HB.out ?_; intro w19 hr19 hb19 hg19; have HR19 := Lib.hid hr19; have HB19 := Lib.hid hb19; have HG19 := Lib.hid (HG.out.trans hg19); clear hr19 hb19 hg19))
      go_roundw
      case rel => exact ⟨t + 1, _, by omega, by go_num, by rw [List.length_set, HYS.out], HR19.out, HB19.out, HG19.out⟩
      case measure => simp [RowKit.intOf]; omega
    · have qt1 : ¬ (t : Int) < (N : Int) := by omega
      clear hr hb hg hys
      go_wp2_with fail
      go_end0
      exact ⟨rfl, HG.out⟩
end Go.Proofs.Ytonecajkfbdnmaa.Dk

namespace Go.Proofs.Ytonecajkfbdnmaa.Dk
open Go.Lib Go.RowKit Go.ChangeMaps Go.Proofs.Ytonecajkfbdnmaa.Mp Go.Proofs.YtonecajkfbdnmaaW.PrintWords Go.Proofs.YtonecajkfbdnmaaW.PrintLast Go.Proofs.YtonecajkfbdnmaaW.PrintMore Go.Proofs.Ytonecajkfbdnmaa.PDiskRoom Go.Proofs.Ytonecajkfbdnmaa.Dw
set_option linter.unusedVariables false
set_option linter.unusedSimpArgs false
/-- A file of a lent image, as its cells hold it: its name, where its bytes lie. -/
abbrev EL := ByteArray × (Option Addr × Nat × Nat)
def ELK (x : EL) (cs : List Value) : Prop := cs = [.string x.1, .slice x.2.1 x.2.2.1 x.2.2.2]
def kS : Kd EL where
  sz := 2
  E := []
  K := fun _ x cs => ELK x cs
  M := fun _ _ _ x cs => ELK x cs
  K_len := fun h => by rw [h]; rfl
  K_one := fun h => by
    rw [h]
    intro u hu
    simp only [List.mem_cons, List.not_mem_nil, or_false] at hu
    rcases hu with rfl | rfl <;> rfl
  K_below := fun _ h => h
  K_of_M := fun h => h
  M_mono := fun _ h => h
  M_bound := fun h => h
  M_move := fun _ h => h
  M_lower := fun _ h => h
theorem info28S : (Try.prog.info? 28).map (fun i => (i.zero, i.size, i.bytes)) = some (some (.agg #[.string ⟨#[]⟩, .slice none 0 0]), kS.sz, 40) := info28
def It (I : Img) (j : Nat) : ByteArray × By := I.getD j (⟨#[]⟩, [])
theorem It_eq {I : Img} {j : Nat} (h : j < I.length) : It I j = I[j] := by unfold It; rw [List.getD_eq_getElem?_getD, List.getElem?_eq_getElem h]; rfl
def el (I : Img) (bs : Nat → Nat × Nat) (j : Nat) : EL := ((It I j).1, (some ⟨(bs j).1, 0, none⟩, (It I j).2.length, (bs j).2))
def els (I : Img) (bs : Nat → Nat × Nat) (n : Nat) : List EL := (List.range n).map (el I bs)
theorem els_len (I : Img) (bs : Nat → Nat × Nat) (n : Nat) : (els I bs n).length = n := by simp [els]
theorem els_succ (I : Img) (bs : Nat → Nat × Nat) (n : Nat) : els I bs (n + 1) = els I bs n ++ [el I bs n] := by unfold els; rw [List.range_succ, List.map_append]; rfl
theorem els_congr (I : Img) {bs bs' : Nat → Nat × Nat} {n : Nat} (h : ∀ j, j < n → bs j = bs' j) : els I bs n = els I bs' n := by
  unfold els
  exact List.map_congr_left (fun j hj => by unfold el; rw [h j (List.mem_range.1 hj)])
abbrev markEl : EL := (⟨#[109, 97, 114, 107]⟩, (none, 0, 0))
/-- The files' bytes, each lent in a block of its own. -/
structure LentB (w : World) (I : Img) (bs : Nat → Nat × Nat) (lo n : Nat) : Prop where
  lent : ∀ j, j < n → Lent w (bs j).1 (bs j).2 (ints (It I j).2)
  lo : ∀ j, j < n → lo ≤ (bs j).1
  inj : ∀ i j, i < j → j < n → (bs i).1 ≠ (bs j).1
theorem LentB.below {w w' : World} {I : Img} {bs : Nat → Nat × Nat} {lo n : Nat} (h : LentB w I bs lo n) (hb : Below w.heap.size w w') : LentB w' I bs lo n := ⟨fun j hj => (h.lent j hj).below hb, h.lo, h.inj⟩
/-- An image in lists of its own, with its mark behind it. -/
structure LentI (w : World) (I : Img) (bs : Nat → Nat × Nat) (lo g cm : Nat) : Prop where
  row : Kd.R kS 28 w 0 (fun k => k = g) (.slice (some ⟨g, 0, none⟩) (I.length + 1) cm) (els I bs I.length ++ [markEl])
  all : LentB w I bs lo I.length
  lo : lo ≤ g
  ne : ∀ j, j < I.length → (bs j).1 ≠ g
set_option maxRecDepth 100000 in
set_option maxHeartbeats 4000000 in
theorem lentImage_walk (I : Img) (A : Option Addr) (c : Nat) (w : World) (hC : Kd.C k28 w A I.length (I.map encF)) (hl : I.length ≤ 1000000000) (hM : ∀ x ∈ I, x.2.length ≤ 1000000000) :
    Calls Try.prog 10 #[.slice A I.length c] w fun e w' => ∃ bs g cm, e = .returned (.slice (some ⟨g, 0, none⟩) I.length cm) ∧ LentI w' I bs w.heap.size g cm ∧ Below w.heap.size w w' := by
  have HC := Lib.hid hC
  have HM := Lib.hid hM
  obtain ⟨N, hN⟩ : ∃ N, I.length = N := ⟨_, rfl⟩
  have HN := Lib.hid hN
  rw [hN] at hl ⊢
  clear hC hM hN
  go_enter Try.func10, Try.ntmps10
  go_wp2_with fail
  go_loopw [3, 4] (fun v3 v4 wr => ∃ (i : Nat) (B : Option Addr) (b : Nat) (bs : Nat → Nat × Nat), i ≤ N ∧ v4 = .int .i64 i ∧ v3 = .slice B i b ∧ Kd.R kS 28 wr w.heap.size (fun k => w.heap.size ≤ k ∧ ∀ j, j < i → k ≠ (bs j).1) (.slice B i b) (els I bs i) ∧ LentB wr I bs w.heap.size i ∧ Below w.heap.size w wr) (fun _ v4 _ => N - (RowKit.intOf v4).toNat)
  case atStart => exact ⟨0, none, 0, fun _ => (0, 0), Nat.zero_le _, rfl, rfl, Kd.R_nil _ _ _ _ _, ⟨fun j hj => by omega, fun j hj => by omega, fun i j _ hj => by omega⟩, Below.refl _ _⟩
  case round =>
    obtain ⟨i, B, b, bs, hi, rfl, rfl, hR, hLB, hb⟩ := hrel
    have HR := Lib.hid hR
    have HLB := Lib.hid hLB
    have HB := Lib.hid hb
    clear hR hb hLB
    by_cases hlt : i < N
    · have hlt' : i < I.length := by rw [HN.out]; exact hlt
      obtain ⟨ad, A1', c1', hA, g0, g1, g2, g3⟩ := img_at HC.out i hlt'
      subst hA
      have hil := ints_length I[i].2
      have hsz := HM.out I[i] (List.getElem_mem hlt')
      have HIT := Lib.hid (It_eq hlt')
      obtain ⟨x, hx⟩ : ∃ x, I[i] = x := ⟨_, rfl⟩
      rw [hx] at g0 g1 g2 g3 HIT hil hsz
      obtain ⟨nm, sb⟩ := x
      simp only at g0 g1 g2 g3 hil hsz
      have HS := Lib.hid (fun W (hb : Below w.heap.size w W) => (⟨pw_cell_below hb g0, pw_cell_below hb g1⟩ : W.cell? (ad.add (i * 2)) = some (.string nm) ∧ W.cell? ⟨(ad.add (i * 2)).block, (ad.add (i * 2)).off + 1, none⟩ = some (.slice A1' sb.length c1')))
      have hdw : Below wr.heap.size wr wr.drew := below_drewN' wr 1
      have hbd : Below w.heap.size w wr.drew := HB.out.trans (hdw.mono HB.out.size)
      have HBD := Lib.hid hbd
      have HDW := Lib.hid hdw
      have HLE := Lib.hid (show Calls Try.prog 36 #[.slice A1' sb.length c1'] wr.drew (fun e w' => ∃ b cap, e = .returned (.slice (some ⟨b, 0, none⟩) sb.length cap) ∧ wr.drew.heap.size ≤ b ∧ b < w'.heap.size ∧ Lent w' b cap (ints sb) ∧ Below wr.drew.heap.size wr.drew w') from by
        have h9 := lend_walk (ints sb) A1' c1' wr.drew (Kd.C_below g3 hbd) (by rw [hil]; exact hsz)
        rw [hil] at h9
        exact h9)
      have qi0 : (0 : Int) ≤ (i : Int) := by omega
      have qi1 : (i : Int) < (N : Int) := by omega
      have hi1 : (i + 1) * 40 ≤ 140737488355328 := by omega
      have HI1 := Lib.hid hi1
      have HEL := Lib.hid (els_len I bs i)
      have HRD := Lib.hid (Kd.R_below (Kd.R_mono (Kd.R_bound HR.out) (ok' := fun k => (w.heap.size ≤ k ∧ ∀ j, j < i → k ≠ (bs j).1) ∧ k < wr.heap.size) (fun k hk => ⟨hk.1, hk.2.2.1⟩)) hdw)
      have HLT := Lib.hid (fun j (hj : j < i) => (HLB.out.lent j hj).lt)
      clear g0 g1 g2 g3 hil hsz hx hbd hlt' hi1 hdw
      go_upto_region 5 with (fail)
      go_region_held3 (fun w' => w'.cell? (ad.add (i * 2)) = some (.string nm) ∧ w'.cell? ⟨(ad.add (i * 2)).block, (ad.add (i * 2)).off + 1, none⟩ = some (.slice A1' sb.length c1'))
        (first | assumption | exact HS.out _ HBD.out | exact HS.out _ (by assumption) | exact HS.out _ (below_alloc (by assumption) _))
        (first | (go_at_call 36; refine HLE.out.mono ?_; rintro e w5 ⟨b5, cap5, rfl, hb5, hb5', hlent5, hb7⟩; have HLN5 := Lib.hid hlent5; have HB7 := Lib.hid hb7; have hq5 : Below w.heap.size w w5 := HBD.out.trans (hb7.mono HBD.out.size); have HRN := Lib.hid (show Kd.R kS 28 w5 w.heap.size (fun k => w.heap.size ≤ k ∧ (∀ j, j < i → k ≠ (bs j).1) ∧ k ≠ b5) (.slice B i b) (els I bs i) from Kd.R_mono (Kd.R_below HRD.out hb7) (fun k hk => ⟨hk.1.1, hk.1.2, fun e => Nat.lt_irrefl k (Nat.lt_of_lt_of_le hk.2 (Nat.le_trans HDW.out.size (e ▸ hb5)))⟩))) |
          (refine Kd.R_append_step kS (w0 := w) (W := w5) w.heap.size (by rfl) (.tmp 11) (.tmp 24) 22 28 (.agg #[.string ⟨#[]⟩, .slice none 0 0]) 40 (by rfl) Try.underlying22 info28S rfl (by decide) (by decide) (.slice B i b) (els I bs i) (nm, (some ⟨b5, 0, none⟩, sb.length, cap5)) [.string nm, .slice (some ⟨b5, 0, none⟩) sb.length cap5] (fun k => w.heap.size ≤ k ∧ (∀ j, j < i → k ≠ (bs j).1) ∧ k ≠ b5) (fun _ => False) (by rfl) (by rfl) rfl (fun k hk => hk.elim) (fun k hk => ⟨Nat.le_trans hq5.size hk, fun j hj e => Nat.lt_irrefl k (Nat.lt_of_lt_of_le (e ▸ HLT.out j hj) (Nat.le_trans (Nat.le_trans HDW.out.size hb7.size) hk)), fun e => Nat.lt_irrefl k (Nat.lt_of_lt_of_le (e ▸ hb5') hk)⟩) HRN.out hq5 hq5.size (by rw [HEL.out]; exact HI1.out) ?_; intro v9 w9 hr9 hb9 hg9 hat9; obtain ⟨A9, c9, rfl⟩ := Kd.R_slice hr9; have HR9 := Lib.hid hr9; have HB9 := Lib.hid hb9; have HG9 := Lib.hid hg9))
      have hq9 : w5.heap.size ≤ w9.heap.size := HG9.out.size
      have hold : ∀ j, j < i → w9.heap[(bs j).1]? = wr.heap[(bs j).1]? := fun j hj => by
        have h1 := HLT.out j hj
        have h2 : (bs j).1 < wr.drew.heap.size := Nat.lt_of_lt_of_le h1 HDW.out.size
        have h3 : (bs j).1 < w5.heap.size := Nat.lt_of_lt_of_le h2 HB7.out.size
        exact (HG9.out.block _ h3 (fun e => (HRN.out.1 _ e.symm).2.1 j hj rfl)).trans ((HB7.out.block _ h2).trans (HDW.out.block _ h1))
      have hnew : w9.heap[b5]? = w5.heap[b5]? := HG9.out.block _ hb5' (fun e => (HRN.out.1 _ e.symm).2.2 rfl)
      have HOLD := Lib.hid hold
      have HNEW := Lib.hid hnew
      have hlow : wr.heap.size ≤ b5 := Nat.le_trans HDW.out.size hb5
      have HLOW := Lib.hid hlow
      clear hq9 hold hnew hlow hb5 hb5' hlent5 hb7 hq5 hr9 hb9 hg9 hat9
      go_wp2_with fail
      go_roundw
      case rel =>
        obtain ⟨bs', hbi, hbj⟩ : ∃ bs' : Nat → Nat × Nat, bs' i = (b5, cap5) ∧ ∀ j, j < i → bs' j = bs j := ⟨fun j => if j = i then (b5, cap5) else bs j, by simp, fun j hj => by simp; omega⟩
        have he : els I bs' (i + 1) = els I bs i ++ [(nm, (some ⟨b5, 0, none⟩, sb.length, cap5))] := by
          rw [els_succ, els_congr I (bs' := bs) hbj]
          unfold el
          rw [hbi, HIT.out]
        have h9 := HR9.out
        rw [List.length_append, List.length_singleton, HEL.out] at h9
        refine ⟨i + 1, A9, c9, bs', by omega, by go_num, by rw [HEL.out], ?_, ⟨fun j hj => ?_, fun j hj => ?_, fun a j haj hj => ?_⟩, HB9.out⟩
        · rw [he]
          refine Kd.R_mono h9 (fun k hk => ⟨hk.1, fun j hj => ?_⟩)
          by_cases hji : j = i
          · subst hji; rw [hbi]; exact hk.2.2
          · have h8 := hk.2.1 j (by omega)
            rw [hbj j (by omega)]; exact h8
        · by_cases hji : j = i
          · subst hji
            rw [hbi, HIT.out]
            exact HLN5.out.move HNEW.out
          · rw [hbj j (by omega)]
            exact (HLB.out.lent j (by omega)).move (HOLD.out j (by omega))
        · by_cases hji : j = i
          · subst hji; rw [hbi]; exact Nat.le_trans HB.out.size HLOW.out
          · rw [hbj j (by omega)]; exact HLB.out.lo j (by omega)
        · by_cases hji : j = i
          · subst hji
            rw [hbi, hbj a haj]
            have h7 := HLT.out a haj
            have h6 := HLOW.out
            show (bs a).1 ≠ b5
            omega
          · rw [hbj j (by omega), hbj a (by omega)]
            exact HLB.out.inj a j haj (by omega)
      case measure => simp [RowKit.intOf]; omega
    · have hib : i = N := by omega
      subst hib
      have qi1 : ¬ (i : Int) < (i : Int) := by omega
      have hlt : ∀ j, j < i → (bs j).1 < wr.heap.size := fun j hj => (HLB.out.lent j hj).lt
      have HLT := Lib.hid hlt
      have HEL := Lib.hid (els_len I bs i)
      have hi1 : (i + 1) * 40 ≤ 140737488355328 := by omega
      have HI1 := Lib.hid hi1
      have hqi : (0 : Int) ≤ (i : Int) := by omega
      clear hlt hi1
      go_upto_region 7 with (first | (at_builtin; refine Kd.R_append kS (W := wr) (w0 := w) w.heap.size rfl (.tmp 26) (.tmp 28) 22 28 (.agg #[.string ⟨#[]⟩, .slice none 0 0]) 40 rfl Try.underlying22 info28S rfl (by decide) (by decide) (.slice B i b) (els I bs i) markEl [.string ⟨#[109, 97, 114, 107]⟩, .slice none 0 0] (fun k => w.heap.size ≤ k ∧ ∀ j, j < i → k ≠ (bs j).1) (fun _ => False) rfl rfl rfl (fun k hk => hk.elim) (fun k hk => ⟨Nat.le_trans HB.out.size hk, fun j hj e => Nat.lt_irrefl k (Nat.lt_of_lt_of_le (e ▸ HLT.out j hj) hk)⟩) HR.out HB.out HB.out.size (by rw [HEL.out]; exact HI1.out) ?_; intro v9 w9 hr9 hb9 hg9 hat9; have HR9 := Lib.hid hr9; have HB9 := Lib.hid hb9; have HG9 := Lib.hid hg9; clear hr9 hb9 hg9 hat9))
      have hlen : (els I bs i ++ [markEl]).length = i + 1 := by rw [List.length_append, HEL.out]; rfl
      obtain ⟨g, cm, rfl, hg0, hg1, _⟩ := Kd.R_form HR9.out (by rw [hlen]; omega)
      have hr9 := HR9.out
      rw [hlen] at hr9
      obtain ⟨i28, hi28, _, hs28, _⟩ := info_parts info28
      have hcm : i + 1 ≤ cm := by
        have h1 : Kd.R kS 28 w9 w.heap.size (fun k => w.heap.size ≤ k ∧ ∀ j, j < i → k ≠ (bs j).1) (.slice (some ⟨g, 0, none⟩) (els I bs i ++ [markEl]).length cm) (els I bs i ++ [markEl]) := HR9.out
        have h2 := (Kd.R_reads' h1).2.1
        rw [hlen] at h2; exact h2
      have hgj : ∀ j, j < i → (bs j).1 ≠ g := fun j hj e => (HR9.out.1 g rfl).2 j hj e.symm
      have hrow : Kd.R kS 28 w9 0 (fun k => k = g) (.slice (some ⟨g, 0, none⟩) (i + 1) cm) (els I bs i ++ [markEl]) := by
        have h1 := Kd.R_lower hr9 (Nat.zero_le _)
        exact ⟨fun k hk => by simp [Value.ownBlock] at hk; exact hk.symm, h1.2.imp_ (fun _ _ h => h)⟩
      have hlb : LentB w9 I bs w.heap.size i := ⟨fun j hj => (HLB.out.lent j hj).move (HG9.out.block _ (HLT.out j hj) (fun e => (HR.out.1 _ e.symm).2 j hj rfl)), HLB.out.lo, HLB.out.inj⟩
      have hsl := cut_cap (P := Try.prog) 22 28 .i64 Try.underlying22 hi28 (some ⟨g, 0, none⟩) (i + 1) cm (i : Int) (by omega) (by omega)
      rw [Int.toNat_natCast] at hsl
      have HFIN := Lib.hid (show LentI w9 I bs w.heap.size g cm from ⟨by rw [HN.out]; exact hrow, by rw [HN.out]; exact hlb, hg0, by rw [HN.out]; exact hgj⟩)
      rw [hlen]
      clear hr9 hcm hgj hrow hlb hlen hi28 hs28
      go_wp2_with fail
      go_ret
      exact ⟨bs, g, cm, rfl, HFIN.out, HB9.out⟩
end Go.Proofs.Ytonecajkfbdnmaa.Dk

namespace Go.Proofs.Ytonecajkfbdnmaa.Dk
open Go.Lib Go.RowKit Go.ChangeMaps Go.Proofs.Ytonecajkfbdnmaa.Mp Go.Proofs.YtonecajkfbdnmaaW.PrintWords Go.Proofs.YtonecajkfbdnmaaW.PrintLast Go.Proofs.YtonecajkfbdnmaaW.PrintMore Go.Proofs.Ytonecajkfbdnmaa.PDiskRoom Go.Proofs.Ytonecajkfbdnmaa.Dw
set_option linter.unusedVariables false
set_option linter.unusedSimpArgs false
abbrev goneEl : EL := (⟨#[103, 111, 110, 101]⟩, (none, 0, 0))
theorem kS_at {w : World} {ok : Nat → Prop} {g n cm : Nat} {E : List EL} (h : Kd.R kS 28 w 0 ok (.slice (some ⟨g, 0, none⟩) n cm) E) (hn : E.length = n) (j : Nat) (x : EL) (hj : E[j]? = some x) :
    w.cell? ⟨g, j * 2, none⟩ = some (.string x.1) ∧ w.cell? ⟨g, j * 2 + 1, none⟩ = some (.slice x.2.1 x.2.2.1 x.2.2.2) := by
  subst hn
  have hC := (Kd.R_reads' h).2.2
  have hlt : j < E.length := (List.getElem?_eq_some_iff.1 hj).1
  obtain ⟨ad, c, e, _, hK, hc0⟩ := Kd.C_get hC goneEl (j : Int) (by omega) (by omega)
  obtain rfl := Option.some.inj e
  have hx : E.getD (j : Int).toNat goneEl = x := by rw [Int.toNat_natCast, List.getD_eq_getElem?_getD, hj]; rfl
  rw [hx] at hK
  have hK' : c = [.string x.1, .slice x.2.1 x.2.2.1 x.2.2.2] := hK
  subst hK'
  have e2 : ∀ t, (⟨g, 0, none⟩ : Addr).add (j * 2 + t) = ⟨g, j * 2 + t, none⟩ := fun t => by unfold Addr.add; simp; intro h1 h2; simp [h1, h2]
  have h0 := hc0 0 _ rfl
  have h1 := hc0 1 _ rfl
  have h0' : w.cell? ((⟨g, 0, none⟩ : Addr).add (j * 2 + 0)) = some (.string x.1) := h0
  have h1' : w.cell? ((⟨g, 0, none⟩ : Addr).add (j * 2 + 1)) = some (.slice x.2.1 x.2.2.1 x.2.2.2) := h1
  rw [e2] at h0' h1'
  exact ⟨h0', h1'⟩
theorem gone_one : ∀ q ∈ [Value.string ⟨#[103, 111, 110, 101]⟩, .slice none 0 0], q.oneCell' = true := by
  intro q hq
  simp only [List.mem_cons, List.not_mem_nil, or_false] at hq
  rcases hq with rfl | rfl <;> rfl
theorem rep_set {α : Type} (a : α) : ∀ (i : Nat) (E : List α), i < E.length → (List.replicate i a ++ E.drop i).set i a = List.replicate (i + 1) a ++ E.drop (i + 1) := by
  intro i E hi
  rw [List.set_append, if_neg (by simp), List.length_replicate, Nat.sub_self, List.drop_eq_getElem_cons hi, List.set_cons_zero, List.replicate_succ']
  simp
set_option maxRecDepth 100000 in
set_option maxHeartbeats 8000000 in
theorem intactImage_walk (I : Img) (bs : Nat → Nat × Nat) (lo g cm : Nat) (A : Option Addr) (c : Nat) (wI w : World) (hL : LentI w I bs lo g cm) (hC : Kd.C k28 wI A I.length (I.map encF)) (hlo : wI.heap.size ≤ lo) (hbI : Below wI.heap.size wI w) (hl : I.length ≤ 1000000000) (hM : ∀ x ∈ I, x.2.length ≤ 1000000000)
    (o : Own) (ho : ∀ k, o k = none → k ≠ g ∧ ∀ j, j < I.length → k ≠ (bs j).1) (hol : ∀ k, k < lo → o k = none) :
    Calls Try.prog 12 #[.slice (some ⟨g, 0, none⟩) I.length cm, .slice A I.length c] w fun e w' => e = .returned (.bool true) ∧ Fr o o w w' := by
  have HL := Lib.hid hL
  have HC := Lib.hid hC
  have HM := Lib.hid hM
  have HO := Lib.hid ho
  have HOL := Lib.hid hol
  have HBI := Lib.hid hbI
  have HLO := Lib.hid hlo
  have hcm : I.length + 1 ≤ cm := by
    have hel : (els I bs I.length ++ [markEl]).length = I.length + 1 := by rw [List.length_append, els_len]; rfl
    have h1 := hL.row
    rw [← hel] at h1
    have h2 := (Kd.R_reads' h1).2.1
    rw [hel] at h2; exact h2
  have hE : (els I bs I.length ++ [markEl]).length = I.length + 1 := by rw [List.length_append, els_len]; rfl
  have HE := Lib.hid hE
  obtain ⟨m0, m1⟩ := kS_at hL.row hE I.length markEl (by rw [List.getElem?_append_right (by rw [els_len]; exact Nat.le_refl _), els_len, Nat.sub_self]; rfl)
  obtain ⟨i28, hi28, _, hs28, _⟩ := info_parts info28
  obtain ⟨N, hN⟩ : ∃ N, I.length = N := ⟨_, rfl⟩
  have HN := Lib.hid hN
  rw [hN] at hl hcm m0 m1 ⊢
  have hsl := cut_cap (P := Try.prog) 22 28 .i64 Try.underlying22 hi28 (some ⟨g, 0, none⟩) N cm ((N : Int) + 1) (by omega) (by omega)
  have hn1 : ((N : Int) + 1).toNat = N + 1 := by omega
  rw [hn1] at hsl
  have hq0 : (0 : Int) ≤ (N : Int) := by omega
  clear hL hC hM ho hol hbI hlo hE hi28 hs28 hN hn1 hcm
  go_enter Try.func12, Try.ntmps12
  go_wp2_with fail
  obtain ⟨E, hEE⟩ : ∃ E, els I bs I.length ++ [markEl] = E := ⟨_, rfl⟩
  have HEE := Lib.hid hEE
  have hEl : E.length = N + 1 := by rw [← hEE, HE.out, HN.out]
  have HEL := Lib.hid hEl
  have HROW := Lib.hid (show Kd.R kS 28 w 0 (fun k => k = g) (.slice (some ⟨g, 0, none⟩) (N + 1) cm) E from by
    have h9 := HL.out.row
    rw [hEE, HN.out] at h9; exact h9)
  clear hEE hEl m0 m1 hsl hq0
  go_loopw [6, 7] (fun v6 v7 wr => ∃ i : Nat, i ≤ N ∧ v7 = .int .i64 i ∧ v6 = .bool true ∧ Kd.R kS 28 wr 0 (fun k => k = g) (.slice (some ⟨g, 0, none⟩) (N + 1) cm) (List.replicate i goneEl ++ E.drop i) ∧ (∀ j, i ≤ j → j < N → Lent wr (bs j).1 (bs j).2 (ints (It I j).2)) ∧ Fr o o w wr ∧ Below 0 w wr) (fun _ v7 _ => N - (RowKit.intOf v7).toNat)
  case atStart => exact ⟨0, Nat.zero_le _, rfl, rfl, HROW.out, fun j _ hj => HL.out.all.lent j (by rw [HN.out]; exact hj), Fr.refl _ _, Below.refl _ _⟩
  case round =>
    obtain ⟨i, hi, rfl, rfl, hR, hLn, hF, hB0⟩ := hrel
    have HR := Lib.hid hR
    have HLN := Lib.hid hLn
    have HF := Lib.hid hF
    have HB0 := Lib.hid hB0
    clear hR hLn hF hB0
    by_cases hlt : i < N
    · have hlt' : i < I.length := by rw [HN.out]; exact hlt
      have hbw : Below wI.heap.size wI wr := HBI.out.trans (HF.out.below HBI.out.size (fun k hk => HOL.out k (Nat.lt_of_lt_of_le hk HLO.out)))
      obtain ⟨ad, A1', c1', hA, g0, g1, g2, g3⟩ := img_at (Kd.C_below HC.out hbw) i hlt'
      subst hA
      have hEi : (List.replicate i goneEl ++ E.drop i)[i]? = some (el I bs i) := by
        rw [List.getElem?_append_right (by simp), List.length_replicate, Nat.sub_self, List.getElem?_drop, Nat.add_zero, ← HEE.out, List.getElem?_append_left (by rw [els_len]; exact hlt')]
        unfold els
        rw [List.getElem?_map, List.getElem?_range hlt']; rfl
      have hlenE : (List.replicate i goneEl ++ E.drop i).length = N + 1 := by rw [List.length_append, List.length_replicate, List.length_drop, HEL.out]; omega
      obtain ⟨x0, x1⟩ := kS_at HR.out hlenE i _ hEi
      have hlent := HLN.out i (Nat.le_refl _) hlt
      have hsz := HM.out I[i] (List.getElem_mem hlt')
      have hil := ints_length I[i].2
      have hIT := It_eq hlt'
      unfold el at x0 x1
      rw [hIT] at x0 x1 hlent
      obtain ⟨bi, hbi⟩ : ∃ bi, (bs i).1 = bi := ⟨_, rfl⟩
      obtain ⟨ci, hci⟩ : ∃ ci, (bs i).2 = ci := ⟨_, rfl⟩
      have HBI2 := Lib.hid hbi
      obtain ⟨x, hx⟩ : ∃ x, I[i] = x := ⟨_, rfl⟩
      rw [hx] at g0 g1 g2 g3 hil hsz x0 x1 hlent
      rw [hbi, hci] at x1 hlent
      obtain ⟨nm, sb⟩ := x
      simp only at g0 g1 g2 g3 hil hsz x0 x1 hlent
      have HLI := Lib.hid hlent
      have HLE := Lib.hid hlenE
      have HX1 := Lib.hid x1
      have HX0 := Lib.hid x0
      have r0 : ∀ q : Cls wr, q.at.cell? (ad.add (i * 2)) = some (.string nm) := fun q => q.cell g0
      have r1 : ∀ q : Cls wr, q.at.cell? ⟨(ad.add (i * 2)).block, (ad.add (i * 2)).off + 1, none⟩ = some (.slice A1' sb.length c1') := fun q => q.cell g1
      have r2 : ∀ q : Cls wr, q.at.cell? ⟨g, i * 2, none⟩ = some (.string nm) := fun q => q.cell x0
      have r3 : ∀ q : Cls wr, q.at.cell? ⟨g, i * 2 + 1, none⟩ = some (.slice (some ⟨bi, 0, none⟩) sb.length ci) := fun q => q.cell x1
      have HIN := Lib.hid (fun q : Cls wr => show Calls Try.prog 39 #[.slice (some ⟨bi, 0, none⟩) sb.length ci, .slice A1' sb.length c1'] q.at (fun e w' => e = .returned (.bool true) ∧ Below q.at.heap.size q.at w') from by
        have h9 := intact_walk (ints sb) bi ci A1' c1' q.at (hlent.below q.below) (Kd.C_below g3 q.below) (by rw [hil]; exact hsz)
        rw [hil] at h9
        exact h9)
      have qi0 : (0 : Int) ≤ (i : Int) := by omega
      have qi1 : (i : Int) < (N : Int) := by omega
      have HIL := Lib.hid hil
      have HSZ := Lib.hid hsz
      clear g0 g1 g2 g3 hil hsz x0 x1 hlent hlenE hEi hIT hbi hci hbw hx hlt'
      go_upto_region 6 with (fail)
      go_cut [6] from 36 to 62 (fun v6 wz => v6 = .bool true ∧ Below wr.heap.size wr wz)
      case first =>
        refine wp_region_cls (by kernel_rfl) (by kernel_rfl) ?_
        repeat (go_big_quiet_step ((refine cls_call (HIN.out _))))
        refine wpQuiet_nil ?_
        rintro wy ⟨q, rfl⟩
        go_wp2_with fail
        go_meet
        case rel => exact ⟨rfl, q.below⟩
      case rest =>
        obtain ⟨rfl, hbz⟩ := hcut
        obtain ⟨wz, hwz⟩ : ∃ wz, wc = wz := ⟨_, rfl⟩
        rw [hwz] at hbz ⊢
        have HBZ := Lib.hid hbz
        have z1 := pw_cell_below hbz HX1.out
        have HOV := Lib.hid (show Calls Try.prog 40 #[.slice (some ⟨bi, 0, none⟩) sb.length ci] wz (fun e w' => e = .returned (.tuple #[]) ∧ wz.grownBy w' (some bi)) from by
          have h9 := over_walk (ints sb) bi ci wz (HLI.out.below hbz) (by rw [HIL.out]; exact HSZ.out)
          rw [HIL.out] at h9
          exact h9)
        clear hwz hbz HIN r0 r1 r2 r3
        go_upto_region 8 with (first | (go_at_call 40; refine HOV.out.mono ?_; rintro e wo ⟨rfl, hgo⟩; have HGO := Lib.hid hgo; clear hgo))
        have hgb : g ≠ bi := by
          rw [← HBI2.out]; exact fun e => HL.out.ne i (by rw [HN.out]; exact hlt) e.symm
        have hglt : g < wr.heap.size := (R_own_lt HR.out g rfl).2.2
        have hgz : g < wz.heap.size := Nat.lt_of_lt_of_le hglt HBZ.out.size
        have hgo : wo.heap[g]? = wr.heap[g]? := (HGO.out.block g hgz (fun e => hgb (Option.some.inj e))).trans (HBZ.out.block g hglt)
        have hro : Kd.R kS 28 wo 0 (fun k => k = g) (.slice (some ⟨g, 0, none⟩) (N + 1) cm) (List.replicate i goneEl ++ E.drop i) := Kd.R_step HR.out (fun k hk _ => by rw [hk]; exact hgo)
        have HRO := Lib.hid hro
        have hcc : ∀ (j : Nat) (u : Value), [Value.string nm, .slice (some ⟨bi, 0, none⟩) sb.length ci][j]? = some u → wo.cell? ⟨g, (i : Int).toNat * kS.sz + j, none⟩ = some u := by
          intro j u hj
          rw [Int.toNat_natCast]
          have y0 : wo.cell? ⟨g, i * 2, none⟩ = some (.string nm) := by rw [World.cell?_of_block (show wo.heap[(⟨g, i * 2, none⟩ : Addr).block]? = wr.heap[(⟨g, i * 2, none⟩ : Addr).block]? from hgo)]; exact HX0.out
          have y1 : wo.cell? ⟨g, i * 2 + 1, none⟩ = some (.slice (some ⟨bi, 0, none⟩) sb.length ci) := by rw [World.cell?_of_block (show wo.heap[(⟨g, i * 2 + 1, none⟩ : Addr).block]? = wr.heap[(⟨g, i * 2 + 1, none⟩ : Addr).block]? from hgo)]; exact HX1.out
          match j, hj with
          | 0, hj =>
            obtain rfl := Option.some.inj hj
            exact y0
          | 1, hj =>
            obtain rfl := Option.some.inj hj
            exact y1
          | k + 2, hj => cases hj
        have HCC := Lib.hid hcc
        have hb0o : Below 0 w wo := HB0.out.trans ⟨HGO.out.os.trans HBZ.out.os, HGO.out.tape.trans HBZ.out.tape, HGO.out.output.trans HBZ.out.output, Nat.le_trans HBZ.out.size HGO.out.size, fun k hk => by omega⟩
        have HB0O := Lib.hid hb0o
        have hlt3 : (i : Int) < ((N + 1 : Nat) : Int) := by omega
        clear z1 hgb hglt hgz hgo hro hcc hb0o
        go_wp2_with (first | (refine gate_ (.store 28 (.tmp 72) (.tmp 71)) rfl ?_; refine Kd.R_store kS (w0 := w) 0 rfl rfl 28 (.tmp 72) (.tmp 71) rfl 28 (n := N + 1) (i : Int) 0 (List.replicate i goneEl ++ E.drop i) goneEl (.agg #[.string ⟨#[103, 111, 110, 101]⟩, .slice none 0 0]) [.string ⟨#[103, 111, 110, 101]⟩, .slice none 0 0] [.string nm, .slice (some ⟨bi, 0, none⟩) sb.length ci] (fun k => k = g) (fun _ => False) (g := g) (o' := i * 2) rfl (by rw [Int.toNat_natCast]; rfl) rfl rfl (by kernel_rfl) gone_one HRO.out qi0 hlt3 rfl HCC.out (by decide) rfl (fun _ hk => hk.elim) HB0O.out ?_; intro w19 hr19 hb19 hg19; have HR19 := Lib.hid hr19; have HB19 := Lib.hid hb19; have HG19 := Lib.hid hg19; clear hr19 hb19 hg19))
        go_roundw
        case rel =>
          refine ⟨i + 1, by omega, by go_num, rfl, ?_, fun j hj1 hj2 => ?_, ?_, HB19.out⟩
          · have h9 := HR19.out
            rw [Int.toNat_natCast, rep_set goneEl i E (by rw [HEL.out]; omega)] at h9
            exact h9
          · have hne1 : (bs j).1 ≠ bi := by
              rw [← HBI2.out]
              exact fun e => HL.out.all.inj i j (by omega) (by rw [HN.out]; exact hj2) e.symm
            have hne2 : (bs j).1 ≠ g := HL.out.ne j (by rw [HN.out]; exact hj2)
            have hl := HLN.out j (by omega) hj2
            have h1 := hl.lt
            have h2 : (bs j).1 < wz.heap.size := Nat.lt_of_lt_of_le h1 HBZ.out.size
            have h3 : (bs j).1 < wo.heap.size := Nat.lt_of_lt_of_le h2 HGO.out.size
            exact hl.move ((HG19.out.block _ h3 (fun e => hne2 (Option.some.inj e))).trans ((HGO.out.block _ h2 (fun e => hne1 (Option.some.inj e))).trans (HBZ.out.block _ h1)))
          · refine HF.out.trans ((Fr.of_below HBZ.out).trans (Fr.trans (o2 := o) ⟨HGO.out.os, HGO.out.tape, HGO.out.output, HGO.out.size, fun k hk hn => HGO.out.block k hk (fun e => (HO.out k hn).2 i (by rw [HN.out]; exact hlt) (by rw [HBI2.out]; exact Option.some.inj e)), fun _ _ h => h⟩ ⟨HG19.out.os, HG19.out.tape, HG19.out.output, HG19.out.size, fun k hk hn => HG19.out.block k hk (fun e => (HO.out k hn).1 (Option.some.inj e)), fun _ _ h => h⟩))
        case measure => simp [RowKit.intOf]; omega
    · have qi1 : ¬ (i : Int) < (N : Int) := by omega
      go_wp2_with fail
      go_ret
      exact ⟨rfl, HF.out⟩
end Go.Proofs.Ytonecajkfbdnmaa.Dk

namespace Go.Proofs.Ytonecajkfbdnmaa.Dk
open Go.Lib Go.RowKit Go.ChangeMaps Go.Proofs.Ytonecajkfbdnmaa.Mp Go.Proofs.YtonecajkfbdnmaaW.PrintWords Go.Proofs.YtonecajkfbdnmaaW.PrintLast Go.Proofs.YtonecajkfbdnmaaW.PrintMore Go.Proofs.Ytonecajkfbdnmaa.PDiskRoom Go.Proofs.Ytonecajkfbdnmaa.Dw
set_option linter.unusedVariables false
set_option linter.unusedSimpArgs false
set_option maxHeartbeats 4000000 in
theorem isname_loop (s : ByteArray) (hs : s.size ≤ big) : ∀ (d i k : Nat), i ≤ s.size → s.size - i ≤ d → d + 1 ≤ k →
    PDiskLoaded.satchelref11_IsName.l0 k s (i : Int) = some (((bl s).drop i).all fairC)
  | d, i, 0, _, _, hk => by omega
  | d, i, k + 1, hi, hd, hk => by
    by_cases h : i < s.size
    · have ih := isname_loop s hs (d - 1) (i + 1) k (by omega) (by omega) (by omega)
      have hw : wrap64 ((i : Int) + 1) = ((i + 1 : Nat) : Int) := by unfold big at hs; unfold wrap64; omega
      unfold PDiskLoaded.satchelref11_IsName.l0
      rw [if_pos (by omega), if_pos (by omega), bt_get, hw, ih, bl_drop s i h, List.all_cons]
      obtain ⟨c, hc⟩ : ∃ c, s.get! i = c := ⟨_, rfl⟩
      obtain ⟨r, hr⟩ : ∃ r, ((bl s).drop (i + 1)).all fairC = r := ⟨_, rfl⟩
      rw [hc, hr]
      have h46 : (c == 46) = decide (c.toNat = 46) := by rw [Bool.eq_iff_iff]; simp [← UInt8.toNat_inj]
      have h45 : (c == 45) = decide (c.toNat = 45) := by rw [Bool.eq_iff_iff]; simp [← UInt8.toNat_inj]
      have h95 : (c == 95) = decide (c.toNat = 95) := by rw [Bool.eq_iff_iff]; simp [← UInt8.toNat_inj]
      unfold fairC
      rw [h46, h45, h95]
      obtain ⟨n, hn⟩ : ∃ n, c.toNat = n := ⟨_, rfl⟩
      rw [hn]
      clear h46 h45 h95 ih
      repeat' split
      all_goals (congr 1; rw [Bool.eq_iff_iff]; simp; try omega)
    · unfold PDiskLoaded.satchelref11_IsName.l0
      rw [if_neg (by omega), List.drop_eq_nil_of_le (by rw [bl_length]; omega)]
      rfl
theorem isname_f (s : ByteArray) (hs : s.size ≤ big) : PDiskLoaded.satchelref11_IsName.f (s.size + 2) s = some (fair s) := by
  have hl := isname_loop s hs s.size 0 (s.size + 1) (by omega) (by omega) (by omega)
  rw [List.drop_zero] at hl
  have ej : ∀ b, PDiskLoaded.satchelref11_IsName.j0 (s.size + 2) s b = if b = true then some false else PDiskLoaded.satchelref11_IsName.l0 (s.size + 1) s 0 := fun b => by unfold PDiskLoaded.satchelref11_IsName.j0; rfl
  unfold PDiskLoaded.satchelref11_IsName.f
  by_cases h1 : (s.size : Int) < 1
  · rw [if_pos h1, ej, if_pos rfl]
    congr 1
    unfold fair
    have : ¬ 1 ≤ s.size := by omega
    simp [this]
  · rw [if_neg h1, ej]
    by_cases h2 : (s.size : Int) > 64
    · rw [if_pos (by simpa using h2)]
      congr 1
      unfold fair
      have : ¬ s.size ≤ 64 := by omega
      simp [this]
    · rw [if_neg (by simp; omega)]
      have e : PDiskLoaded.satchelref11_IsName.l0 (s.size + 1) s 0 = some ((bl s).all fairC) := hl
      rw [e]
      congr 1
      unfold fair
      have h3 : 1 ≤ s.size := by omega
      have h4 : s.size ≤ 64 := by omega
      simp [h3, h4]
theorem isname_walk (n : ByteArray) (w : World) (hn : n.size ≤ big) : Calls Try.prog 9 #[.string n] w fun e w' => e = .returned (.bool (fair n)) ∧ Below w.heap.size w w' :=
  (PDiskLoaded.satchelref11_IsName.calls (n.size + 2) n (fair n) w (isname_f n hn)).mono (fun e w' ⟨h, ⟨m, hm⟩⟩ => ⟨h, hm ▸ below_drewN' w m⟩)
/-- The first i files: fair names, in order. -/
def Chain (I : Img) (i : Nat) : Prop := ∀ j (hj : j < i) (hl : j < I.length), fair I[j].1 = true ∧ ∀ k (h : k + 1 = j), bl (I[k]'(by omega)).1 < bl I[j].1
theorem Chain.zero (I : Img) : Chain I 0 := fun j hj => by omega
theorem Chain.succ {I : Img} {i : Nat} (hi : i < I.length) : Chain I (i + 1) ↔ Chain I i ∧ fair I[i].1 = true ∧ ∀ k (h : k + 1 = i), bl (I[k]'(by omega)).1 < bl I[i].1 := by
  constructor
  · intro h
    exact ⟨fun j hj hl => h j (by omega) hl, h i (by omega) hi⟩
  · rintro ⟨h1, h2⟩ j hj hl
    by_cases e : j = i
    · subst e; exact h2
    · exact h1 j (by omega) hl
theorem iok_of {room : Nat} {I : Img} (h : Chain I I.length) (hs : sumI I I.length ≤ room) (hf : I.length ≤ 64) : IOk room I := by
  have key : ∀ i, i ≤ I.length → IOk room (I.take i) := by
    intro i
    induction i with
    | zero => intro _; exact ⟨Nat.zero_le _, List.Pairwise.nil, fun x hx => by simp at hx, Nat.zero_le _⟩
    | succ i ih =>
      intro hi
      obtain ⟨h1, h2⟩ := h i (by omega) (by omega)
      refine (ih (by omega)).step (by omega) hf ⟨h1, h2, ?_⟩
      have h3 := sumI_succ I i (by omega)
      have h4 := sumI_le I (i + 1)
      rw [← sumI_all] at h4
      omega
  have h9 := key I.length (Nat.le_refl _)
  rw [List.take_length] at h9
  exact h9
theorem iok_iff (room : Nat) (I : Img) : IOk room I ↔ Chain I I.length ∧ sumI I I.length ≤ room ∧ I.length ≤ 64 :=
  ⟨fun h => ⟨fun j hj hl => ⟨(h.at hl).1, (h.at hl).2.1⟩, by rw [sumI_all]; exact h.sum, h.few⟩, fun ⟨h1, h2, h3⟩ => iok_of h1 h2 h3⟩
set_option maxRecDepth 100000 in
set_option maxHeartbeats 4000000 in
theorem load_bad (n : Int) (hn : n < 0 ∨ 67108864 < n) (v : Value) (w : World) : Calls Try.prog 11 #[v, .int .i64 n] w fun e w' => e = .returned (.tuple #[.pointer none, .int .i64 110]) ∧ w' = w := by
  have HNB := Lib.hid (new_bad n hn w)
  go_enter Try.func11, Try.ntmps11
  go_wp2_with (first | (go_at_call 23; refine HNB.out.mono ?_; rintro e w1 ⟨rfl, rfl⟩))
  go_ret2
  exact ⟨rfl, rfl⟩
end Go.Proofs.Ytonecajkfbdnmaa.Dk
