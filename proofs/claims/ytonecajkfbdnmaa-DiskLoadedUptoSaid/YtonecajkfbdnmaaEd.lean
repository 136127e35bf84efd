/- The walks of Plan, empty, New, slices.Clone. -/
import Derived.Test.YtonecajkfbdnmaaEc
import Derived.Lib.SliceRun
import Derived.Test.YtonecajkfbdnmaaShelf
import Derived.Laws.CopyOwn
import Derived.Sort.OwnSorted
namespace Go.Proofs.Ytonecajkfbdnmaa.Dk
open Go.Lib Go.RowKit Go.ChangeMaps Go.Proofs.Ytonecajkfbdnmaa.Mp Go.Proofs.YtonecajkfbdnmaaW.PrintWords Go.Proofs.YtonecajkfbdnmaaW.PrintLast Go.Proofs.YtonecajkfbdnmaaW.PrintMore Go.Proofs.Ytonecajkfbdnmaa.PDiskRoom
set_option linter.unusedVariables false
set_option linter.unusedSimpArgs false

def Dk.setPlan (d : Dk) (p : Pl) : Dk := if d.off then d else { d with plan := p, count := 0 }
def encPl (p : Pl) : Value := .agg #[.int .i64 p.off, .int .i64 p.from_, .int .i64 p.to_]
set_option maxRecDepth 100000 in
set_option maxHeartbeats 2000000 in
theorem plan_walk (own : Own) (w : World) (kd : Nat) (blk : Nat → Nat) (d : Dk) (h : Rep own w kd blk d) (p : Pl) :
    Calls Try.prog 32 #[ptr kd, encPl p] w fun e w' => e = .returned (.tuple #[]) ∧ Left own w kd (d.setPlan p) w' := by
  obtain ⟨kn, ks, vc, hb, hcl⟩ := h.disk
  have HCL := Lib.hid hcl
  have HH := Lib.hid h
  have hkd := blk_lt hb
  have HB := Lib.hid hb
  have HKD := Lib.hid hkd
  clear hcl h hb hkd
  unfold ptr encPl
  go_enter Try.func32, Try.ntmps32
  go_upto_region 1 with (fail)
  obtain ⟨wb, hwb⟩ : ∃ wb, w.alloc (.cells #[.int .i64 p.off, .int .i64 p.from_, .int .i64 p.to_] 56) = wb := ⟨_, rfl⟩
  have hbb : Below w.heap.size w wb := hwb ▸ below_alloc (Below.refl _ _) _
  have hnb : wb.heap[w.heap.size]? = some (.cells #[.int .i64 p.off, .int .i64 p.from_, .int .i64 p.to_] 56 (0, 0)) := by rw [← hwb]; exact blk_new w _
  have hb1 := blk_below HB.out hbb
  obtain ⟨H, hH⟩ : ∃ H, w.heap.size = H := ⟨_, rfl⟩
  rw [hwb]
  rw [hH] at hnb ⊢
  have c1 := blk_cell hb1 1
  have c6 := blk_cell hb1 6
  have c7 := blk_cell hb1 7
  have c8 := blk_cell hb1 8
  have c9 := blk_cell hb1 9
  have f6 := blk_frozen hb1 6
  have f7 := blk_frozen hb1 7
  have f8 := blk_frozen hb1 8
  have f9 := blk_frozen hb1 9
  have n0 := blk_cell hnb 0
  have n1 := blk_cell hnb 1
  have n2 := blk_cell hnb 2
  simp [cells] at c1 c6 c7 c8 c9 n0 n1 n2
  have HBB := Lib.hid hbb
  have HB1 := Lib.hid hb1
  have HHH := Lib.hid hH
  clear hwb hnb hb1 hbb hH
  cases hoff : d.off
  · rw [hoff] at c1
    have hsp : d.setPlan p = { d with plan := p, count := 0 } := by unfold Dk.setPlan; rw [hoff]; simp [hoff]
    have HSP := Lib.hid hsp
    have HOFF := Lib.hid hoff
    clear hoff hsp
    go_wp2_with fail
    go_end0
    rw [HSP.out]
    refine ⟨rfl, own, blk, HCL.out _ { d with plan := p, count := 0 } (by simpa using HBB.out.size) (fun k hk hn => ?_) ?_ rfl rfl rfl rfl, ?_⟩
    · rw [Below.heap_setCell _ _ _ k hn, Below.heap_setCell _ _ _ k hn, Below.heap_setCell _ _ _ k hn, Below.heap_setCell _ _ _ k hn]
      exact HBB.out.block k hk
    · refine (blk_set (blk_set (blk_set (blk_set HB1.out 7 _) 8 _) 9 _) 6 _).trans ?_
      simp [cells, HOFF.out]
    · refine ⟨HBB.out.os, HBB.out.tape, HBB.out.output, by simpa using HBB.out.size, fun k hk hn => ?_, fun _ _ h => h⟩
      have hn' : k ≠ kd := fun e => by rw [e, HH.out.dk] at hn; cases hn
      rw [Below.heap_setCell _ _ _ k hn', Below.heap_setCell _ _ _ k hn', Below.heap_setCell _ _ _ k hn', Below.heap_setCell _ _ _ k hn']
      exact HBB.out.block k hk
  · rw [hoff] at c1
    have hsp : d.setPlan p = d := by unfold Dk.setPlan; rw [hoff]; simp
    have HSP := Lib.hid hsp
    clear hoff hsp
    go_wp2_with fail
    go_end0
    rw [HSP.out]
    exact ⟨rfl, Left.same HH.out HBB.out⟩
/-! ### New -/
def Dk.new (room : Nat) : Dk := ⟨room, false, [], [], [], 0, 0, ⟨0, 0, 0⟩, []⟩
def newOwn (n : Nat) : Own := fun k => if k = n + 2 then some .disk else if k = n then some .names else if k = n + 1 then some .sure else none
/-- A disk of its own, in new memory. -/
def Made (w : World) (d : Dk) (e : Ending) (w' : World) : Prop := ∃ kd own blk, e = .returned (ptr kd) ∧ Rep own w' kd blk d ∧ Below w.heap.size w w' ∧ ∀ k r, own k = some r → w.heap.size ≤ k
set_option maxRecDepth 100000 in
set_option maxHeartbeats 2000000 in
theorem empty_walk (room : Nat) (w : World) : Calls Try.prog 47 #[.int .i64 (room : Int)] w (Made w (Dk.new room)) := by
  have hmm := @run_makeMap Try.prog
  go_enter Try.func47, Try.ntmps47
  go_wp2_with fail
  go_ret
  refine ⟨w.heap.size + 2, newOwn w.heap.size, fun _ => 0, rfl, ⟨fun k r hk => ?_, by simp [newOwn], fun f hf => by simp [Dk.new] at hf, ⟨w.heap.size, w.heap.size + 1, .slice none 0 0, by simp [newOwn], by simp [newOwn], ?_, ⟨[], ⟨#[], 0, ?_, rfl, by simp, by simp⟩, KvIs.nil _⟩, ⟨[], ⟨#[], 0, ?_, rfl, by simp, by simp⟩, KvIs.nil _⟩, Kd.R_nil _ _ _ _ _⟩, fun f hf => by simp [Dk.new] at hf⟩, below_alloc (below_alloc (below_alloc (Below.refl _ _) _) _) _, fun k r hk => ?_⟩
  · unfold newOwn at hk
    simp
    split at hk
    · omega
    · split at hk
      · omega
      · split at hk
        · omega
        · cases hk
  · have := heap_alloc_new ((w.alloc (.map #[] 0)).alloc (.map #[] 0)) (.cells #[.int .i64 (room : Int), .bool false, .map (some w.heap.size), .map (some (w.heap.size + 1)), .slice none 0 0, .int .i64 0, .int .i64 0, .int .i64 0, .int .i64 0, .int .i64 0] 81)
    simp at this
    simpa [Dk.new] using this
  · rw [heap_alloc_old _ _ (by simp; omega), heap_alloc_old _ _ (by simp)]; exact heap_alloc_new w _
  · rw [heap_alloc_old _ _ (by simp)]
    have := heap_alloc_new (w.alloc (.map #[] 0)) (.map #[] 0)
    simpa using this
  · unfold newOwn at hk
    split at hk
    · omega
    · split at hk
      · omega
      · split at hk
        · omega
        · cases hk

def Made2 (w : World) (d : Dk) (e : Ending) (w' : World) : Prop := ∃ kd own blk, e = .returned (.tuple #[ptr kd, .int .i64 0]) ∧ Rep own w' kd blk d ∧ Below w.heap.size w w' ∧ ∀ k r, own k = some r → w.heap.size ≤ k
theorem new_walk (room : Nat) (hr : room ≤ 67108864) (w : World) : Calls Try.prog 23 #[.int .i64 (room : Int)] w (Made2 w (Dk.new room)) := by
  have HE := Lib.hid (empty_walk room w)
  have h0 : (0 : Int) ≤ (room : Int) := by omega
  go_enter Try.func23, Try.ntmps23
  go_wp2_with fail
  refine HE.out.mono ?_
  rintro e w1 ⟨kd, own, blk, rfl, hr, hb, hn⟩
  have HR := Lib.hid hr
  have HB := Lib.hid hb
  have HN := Lib.hid hn
  clear hr hb hn
  unfold ptr
  go_wp2_with fail
  go_ret2
  exact ⟨kd, own, blk, rfl, HR.out, HB.out, HN.out⟩
theorem new_bad (n : Int) (hn : n < 0 ∨ 67108864 < n) (w : World) : Calls Try.prog 23 #[.int .i64 n] w fun e w' => e = .returned (.tuple #[.pointer none, .int .i64 110]) ∧ w' = w := by
  rcases hn with hn | hn
  · go_enter Try.func23, Try.ntmps23
    go_wp2_with fail
    go_ret2
    exact ⟨rfl, rfl⟩
  · have h0 : ¬ n < 0 := by omega
    go_enter Try.func23, Try.ntmps23
    go_wp2_with fail
    go_ret2
    exact ⟨rfl, rfl⟩
/-! ### slices.Clone of bytes -/
theorem info5 : (Try.prog.info? 5).map (fun i => (i.zero, i.size, i.bytes)) = some (some (.int .u8 0), 1, 1) := by kernel_rfl
theorem R_empty {α : Type} (d : Kd α) (e : Nat) (hs : d.sz = 1) (w : World) : d.R e (w.alloc (.cells #[] e)) w.heap.size (fun k => w.heap.size ≤ k) (.slice (some ⟨w.heap.size, 0, none⟩) 0 0) [] :=
  ⟨fun k hk => by simp [Value.ownBlock] at hk; omega, [], ⟨by simp, .inr ⟨w.heap.size, 0, #[], rfl, Nat.le_refl _, blk_new w _, Nat.le_refl _, by unfold maxLen; omega, by simp, by simp⟩⟩, Reps.none _ _⟩
theorem clone_walk (xs : List Int) (A : Option Addr) (c : Nat) (w : World) (hC : Kd.C kB w A xs.length xs) (hl : xs.length ≤ 1000000000000) :
    Calls Try.prog 38 #[.slice A xs.length c] w fun e w' => ∃ v, e = .returned v ∧ Kd.R kB 5 w' w.heap.size (fun k => w.heap.size ≤ k) v xs ∧ Below w.heap.size w w' := by
  have HC := Lib.hid hC
  have HL := Lib.hid hl
  clear hC hl
  cases A with
  | none =>
    have h0 : xs = [] := by
      have := HC.out
      cases xs with
      | nil => rfl
      | cons x xs =>
        obtain ⟨ad, _, e, _⟩ := Kd.C_get this (0 : Int) (0 : Int) (by omega) (by simp)
        cases e
    subst h0
    have he := fun W => Lib.run_eql_slice_nil (P := Try.prog) W 26 5 none 0 c 0 0 Try.underlying26
    go_enter Try.func38, Try.ntmps38
    go_wp2_with fail
    go_ret
    exact ⟨_, rfl, Kd.R_nil _ _ _ _ _, Below.refl _ _⟩
  | some ad =>
    have he := fun W => Lib.run_eql_slice_nil (P := Try.prog) W 26 5 (some ad) xs.length c 0 0 Try.underlying26
    have hE := Lib.hid (R_empty kB 5 rfl w)
    have hbl := Lib.hid (below_alloc (Below.refl w.heap.size w) (.cells #[] 5))
    have hcb := Lib.hid (Kd.C_below HC.out (below_alloc (Below.refl w.heap.size w) (.cells #[] 5)))
    go_enter Try.func38, Try.ntmps38
    go_wp2_with (at_builtin; refine Kd.R_append_row (Value.int .u8) (0 : Int) (w0 := w) w.heap.size rfl (.tmp 5) (.tmp 6) 26 5 (.int .u8 0) 1 rfl Try.underlying26 info5 rfl (by decide) _ [] xs (some ad) xs.length c (fun k => w.heap.size ≤ k) rfl rfl (fun k hk => by simp at hk; omega) hE.out hcb.out hbl.out (by simp) (by have := HL.out; simp; omega) ?_; intro v1 w1 ho hb1 hg hat)
    go_ret
    exact ⟨_, rfl, ho, hb1⟩
end Go.Proofs.Ytonecajkfbdnmaa.Dk

namespace Go.Proofs.Ytonecajkfbdnmaa.Dk
open Go.Lib Go.RowKit Go.ChangeMaps Go.Proofs.Ytonecajkfbdnmaa.Mp Go.Proofs.YtonecajkfbdnmaaW.PrintWords Go.Proofs.YtonecajkfbdnmaaW.PrintLast Go.Proofs.YtonecajkfbdnmaaW.PrintMore Go.Proofs.Ytonecajkfbdnmaa.PDiskRoom
set_option linter.unusedVariables false
set_option linter.unusedSimpArgs false

theorem C_cells {w : World} {A : Option Addr} {xs : List Int} (h : Kd.C kB w A xs.length xs) (hn : 0 < xs.length) : ∃ ad, A = some ad ∧ ∀ j v, (xs.map (Value.int .u8))[j]? = some v → w.cell? (ad.add j) = some v := by
  obtain ⟨ad, _, e, _⟩ := Kd.C_get h (0 : Int) 0 (by omega) (by omega)
  refine ⟨ad, e, fun j v hv => ?_⟩
  obtain ⟨hl, hv2⟩ := List.getElem?_eq_some_iff.1 hv
  rw [List.length_map] at hl
  obtain ⟨ad2, c, e2, _, hK, hc⟩ := Kd.C_get h (0 : Int) (j : Int) (by omega) (by omega)
  rw [e] at e2
  obtain rfl := Option.some.inj e2
  have hc' : c = [Value.int .u8 (xs.getD (j : Int).toNat 0)] := hK
  subst hc'
  have := hc 0 _ rfl
  have hsz : kB.sz = 1 := rfl
  rw [hsz] at this
  simp only [Int.toNat_natCast, Nat.mul_one, Nat.add_zero] at this
  rw [this]
  rw [List.getElem_map] at hv2
  rw [← hv2, List.getD_eq_getElem?_getD, List.getElem?_eq_getElem hl]
  rfl
section
variable {ops : Array Oper} {rest : List Oper} {o : Oper} {a : Act} {Q : Exit → Act → World → Prop}
theorem R_copy {w0 W : World} {base : Nat} {ok : Nat → Prop} (hgd : o.guard = none) (s x : Operand) (ho : o.op = .call { callee := .builtin .copy, args := #[s, x], argTypes := #[26, 26] })
    (v : Value) (zs xs : List Int) (A : Option Addr) (c : Nat) (hs : a.eval s = v) (hx : a.eval x = .slice A xs.length c) (HO : Kd.R kB 5 W base ok v zs) (hzl : zs.length = xs.length) (hv : ∃ b, v.ownBlock = some b) (HC : Kd.C kB W A xs.length xs) (HB : Below base w0 W)
    (h : ∀ w1, Kd.R kB 5 w1 base ok v xs → Below base w0 w1 → wpList Try.prog ops Q rest (a.put o.dst (goInt xs.length)) w1) : wpList Try.prog ops Q (o :: rest) a W := by
  have hok := HO.1
  have hown := Kd.own_of_R HO
  rcases hown.2 with ⟨rfl, _⟩ | ⟨g, cap, cur, rfl, hg, hh, h1, h2, h3, h4⟩
  · obtain ⟨b, hb⟩ := hv
    simp [Value.ownBlock] at hb
  · have hcs : cur.size = cap := by omega
    refine wpList_copy_splice hgd s x 26 26 ho 5 Try.underlying26 (by kernel_rfl) (some ⟨g, 0, none⟩) A zs.length cap xs.length c hs hx g 0 cur.toList 5 (by simpa using hh) (xs.map (Value.int .u8)) (by rw [List.length_map, hzl]; exact (Nat.min_self _).symm)
      (fun hp => ⟨rfl, by
        rw [List.length_map] at hp
        exact C_cells HC hp⟩) (by simp; omega) (by intro v hv; obtain ⟨y, _, rfl⟩ := List.mem_map.1 hv; rfl) base w0 HB hg ?_
    intro w1 hw1 hb1
    rw [List.length_map]
    refine h w1 (Kd.R_of_own ⟨by simp [encs], .inr ⟨g, cap, _, by rw [hzl], hg, hw1.out, by omega, h2, ?_, ?_⟩⟩ hok) hb1
    · simp [splice]; omega
    · simp [splice, encs]
end
def Dk.read (d : Dk) (n : ByteArray) : Option By × Nat :=
  match d.find n with
  | (some f, _) => (some (d.file f).seen, 0)
  | (none, e) => (none, e)
set_option maxRecDepth 100000 in
set_option maxHeartbeats 2000000 in
theorem read_walk (own : Own) (w : World) (kd : Nat) (blk : Nat → Nat) (d : Dk) (h : Rep own w kd blk d) (hlt : ∀ x ∈ d.names, x.2 < d.files.length) (hsn : Srt d.names) (hln : ∀ f, f < d.files.length → (d.file f).seen.length ≤ 1000000000) (n : ByteArray) (hn : n.size ≤ big) :
    Calls Try.prog 17 #[ptr kd, .string n] w fun e w' => ∃ v, e = .returned (.tuple #[v, .int .i64 ((d.read n).2 : Int)]) ∧ Kd.R kB 5 w' w.heap.size (fun k => w.heap.size ≤ k) v (ints ((d.read n).1.getD [])) ∧ Below w.heap.size w w' := by
  have HF := Lib.hid (find_walk own w kd blk d h n hn)
  have HH := Lib.hid h
  clear h
  rcases find_cases d n with ⟨f, hf, hg, _⟩ | ⟨hf, _⟩ | ⟨hf, _⟩ | ⟨hf, _⟩
  · have hrm : d.read n = (some (d.file f).seen, 0) := by unfold Dk.read; rw [hf]
    have hfl : f < d.files.length := hlt (n, f) ((mem_aget hsn n f).2 hg)
    have hln2 := hln f hfl
    rw [hrm]
    rw [hf] at HF
    obtain ⟨vk, vu, A, c, hb, hc, hC⟩ := HH.out.seen f hfl
    obtain ⟨s, hs⟩ : ∃ s, (d.file f).seen = s := ⟨_, rfl⟩
    rw [hs] at hln2 hb hc hC ⊢
    have HB := Lib.hid hb
    have HC := Lib.hid hC
    have HS := Lib.hid hs
    have hil : (ints s).length = s.length := ints_length s
    have HIL := Lib.hid hil
    clear hf hrm hg hb hc hC hfl hs hil
    unfold ptr at HF ⊢
    go_enter Try.func17, Try.ntmps17
    go_wp2_with fail
    refine HF.out.mono ?_
    rintro e w1 ⟨rfl, m, hw1⟩
    have hb1 : Below w.heap.size w w1 := hw1 ▸ below_drewN' w m
    have c2 := blk_cell (blk_below HB.out hb1) 2
    simp at c2
    have HB1 := Lib.hid hb1
    have HX := Lib.hid (blk_below HB.out hb1)
    have HC1 := Lib.hid (Kd.C_below HC.out hb1)
    clear hw1 hb1
    unfold fptr ptr
    go_wp2_with (first | (at_make; go_loud (refine Kd.R_make kB (w0 := w) w.heap.size 5 rfl rfl 26 (.tmp 22) (.tmp 22) rfl (s.length : Int) rfl rfl Try.underlying26 (.int .u8 0) 1 info5 rfl (by decide) (by decide) (0 : Int) (okp := fun _ => False) (ok := fun k => w.heap.size ≤ k) rfl (fun _ hk => hk.elim) HB1.out.size (by omega) (by omega) HB1.out HB1.out.size ?_; intro v1 w2 hr2 hb2 hg2 hv2; have HR2 := Lib.hid hr2; have HB2 := Lib.hid hb2; have HV2 := Lib.hid hv2; have c2b := cell_row hg2 c2 (by simp); have HC2 := Lib.hid (Kd.C_below HC1.out (Below.grown (Below.refl w1.heap.size w1) hg2 (Nat.le_refl _) (fun _ hk => nomatch hk))); clear hr2 hb2 hv2 hg2 c2)) | ((with_reducible refine gate_dst (N := 29) rfl ?_); go_loud (refine R_copy (w0 := w) (base := w.heap.size) (ok := fun k => w.heap.size ≤ k) rfl (.tmp 24) (.tmp 28) rfl v1 (List.replicate s.length 0) (ints s) A c rfl (by rw [HIL.out]; rfl) HR2.out (by rw [HIL.out]; simp) (HV2.out.elim fun b hb => ⟨b, hb.1⟩) HC2.out HB2.out ?_; intro w3 hr3 hb3)))
    go_ret2
    exact ⟨_, rfl, hr3, hb3⟩
  all_goals
    have hrm : d.read n = (none, (d.find n).2) := by unfold Dk.read; rw [hf]
    rw [hrm, hf]
    rw [hf] at HF
    clear hf hrm
    unfold ptr at HF ⊢
    go_enter Try.func17, Try.ntmps17
    go_wp2_with fail
    refine HF.out.mono ?_
    rintro e w1 ⟨rfl, m, hw1⟩
    have HB1 := Lib.hid (show Below w.heap.size w w1 from hw1 ▸ below_drewN' w m)
    clear hw1
    unfold fptr
    go_wp2_with fail
    go_ret2
    exact ⟨_, rfl, Kd.R_nil _ _ _ _ _, HB1.out⟩
end Go.Proofs.Ytonecajkfbdnmaa.Dk

namespace Go.Proofs.Ytonecajkfbdnmaa.Dk
open Go.Lib Go.RowKit Go.ChangeMaps Go.Proofs.Ytonecajkfbdnmaa.Mp Go.Proofs.YtonecajkfbdnmaaW.PrintWords Go.Proofs.YtonecajkfbdnmaaW.PrintLast Go.Proofs.YtonecajkfbdnmaaW.PrintMore Go.Proofs.Ytonecajkfbdnmaa.PDiskRoom
open Go.Sort
set_option linter.unusedVariables false
set_option linter.unusedSimpArgs false

theorem encStr_bl (s : ByteArray) : encStr (bl s) = .string s := by cases s; simp [encStr, bl]
def leB (x y : By) : Bool := decide (x ≤ y)
theorem sort_names {m : AM} (hs : Srt m) {xs : List ByteArray} (hp : xs.Perm (m.map (·.1))) : (xs.map bl).mergeSort (fun x y => decide (x ≤ y)) = (m.map (·.1)).map bl := by
  have tr : ∀ a b c : By, decide (a ≤ b) = true → decide (b ≤ c) = true → decide (a ≤ c) = true := fun a b c h1 h2 => by simp only [decide_eq_true_eq] at *; exact List.le_trans h1 h2
  have tot : ∀ a b : By, (decide (a ≤ b) || decide (b ≤ a)) = true := fun a b => by simp only [Bool.or_eq_true, decide_eq_true_eq]; exact List.le_total a b
  refine List.Perm.eq_of_pairwise (le := fun a b => decide (a ≤ b) = true) (fun a b _ _ h1 h2 => ?_) (List.pairwise_mergeSort tr tot _) ?_ ((List.mergeSort_perm _ _).trans (hp.map bl))
  · simp only [decide_eq_true_eq] at h1 h2
    exact List.le_antisymm h1 h2
  · rw [List.map_map, List.pairwise_map]
    exact List.Pairwise.imp (fun h => by simp only [decide_eq_true_eq]; exact List.le_of_lt h) hs
theorem sort_walk {w : World} {base : Nat} {v : Value} {xs ys : List ByteArray} {ok : Nat → Prop} (h : Kd.R Kd.string 9 w base ok v xs) (hl : xs.length < 4611686018427387904) (hy : (xs.map bl).mergeSort (fun x y => decide (x ≤ y)) = ys.map bl) :
    Calls Try.prog 54 #[v] w fun e w' => e = .returned (.tuple #[]) ∧ Kd.R Kd.string 9 w' base ok v ys ∧ w.grownBy w' v.ownBlock := by
  have hlen : ys.length = xs.length := by
    have := congrArg List.length hy
    rw [List.length_mergeSort, List.length_map, List.length_map] at this
    exact this.symm
  have hok := h.1
  have hown := Kd.own_of_R h
  have hc : encs Value.string xs = (xs.map bl).map encStr := by unfold encs; rw [List.map_map]; exact List.map_congr_left fun x _ => (encStr_bl x).symm
  have hc2 : encs Value.string ys = (ys.map bl).map encStr := by unfold encs; rw [List.map_map]; exact List.map_congr_left fun x _ => (encStr_bl x).symm
  rcases hown.2 with ⟨rfl, h0⟩ | ⟨g, cap, cur, rfl, hbase, hb, h1, h2, h3, h4⟩
  · have hx : xs = [] := List.eq_nil_of_length_eq_zero h0
    subst hx
    have hy0 : ys = [] := List.eq_nil_of_length_eq_zero (by simpa using hlen)
    subst hy0
    refine (Try.slices_Sort_string_none none 0 w).mono ?_
    rintro e w' ⟨rfl, rfl⟩
    exact ⟨rfl, h, World.grownBy.refl _ _⟩
  · rw [hc] at h4
    have hl1 : (xs.map bl).length = xs.length := List.length_map ..
    have hH := holds_of_block hb (by rw [hl1]; simpa using h4)
    have hS := Try.slices_Sort_string g 0 cap (xs.map bl) w hH (Array.getElem?_eq_some_iff.1 hb).1 (by rw [hl1]; exact hl)
    rw [hl1, hy] at hS
    refine hS.mono ?_
    rintro e w' ⟨rfl, n, os, rfl⟩
    have hos := ownsRow_sorted (n := n) (os := os) (ss := xs.map bl) (ts := ys.map bl) (by simp [hlen]) hbase hb (by rw [hl1]; exact h1) h2 h3
    rw [hl1, ← hc2] at hos
    refine ⟨rfl, Kd.R_of_own ?_ hok, grownBy_sorted _⟩
    rw [hlen]
    exact hos
theorem info9 : (Try.prog.info? 9).map (fun i => (i.zero, i.size, i.bytes)) = some (some (.string ⟨#[]⟩), 1, 16) := by kernel_rfl
set_option maxRecDepth 100000 in
set_option maxHeartbeats 2000000 in
theorem sorted_walk (w : World) (kn : Nat) (blk : Nat → Nat) (m : AM) (h : MapIs w kn m blk) (hs : Srt m) (hl : m.length ≤ 1000000000) :
    Calls Try.prog 41 #[.map (some kn)] w fun e w' => ∃ v, e = .returned v ∧ Kd.R Kd.string 9 w' w.heap.size (fun k => w.heap.size ≤ k) v (m.map (·.1)) ∧ Below w.heap.size w w' := by
  obtain ⟨kv, hm, hkv⟩ := h
  have hknlt := hm.lt
  obtain ⟨o, hrun, hrng⟩ := run_range (P := Try.prog) kv hm Try.underlying78
  have hp := hkv.perm hs
  have HP := Lib.hid hp
  have HRNG := Lib.hid hrng
  have HL := Lib.hid hl
  have HS := Lib.hid hs
  clear hm hkv hp hrng hl hs
  go_enter Try.func41, Try.ntmps41
  go_wp2_with fail
  go_loopg [3] m.length (fun gf v3 wr => ∃ (left : KV) (rest done : AM) (A : Option Addr) (c : Nat), v3 = .slice A (done.map (·.1)).length c ∧ rest.length ≤ gf ∧ left.Perm (rest.map (encM blk)) ∧ (done ++ rest).Perm m ∧ Kd.R Kd.string 9 wr (w.heap.size + 1) (fun k => w.heap.size + 1 ≤ k) (.slice A (done.map (·.1)).length c) (done.map (·.1)) ∧ Below w.heap.size w wr ∧ w.heap.size < wr.heap.size ∧ Rng wr kn w.heap.size left)
  case atStart => exact ⟨kv, m, [], none, 0, rfl, Nat.le_refl _, HP.out, List.Perm.refl _, Kd.R_nil _ _ _ _ _, below_alloc (Below.refl _ _) _, by simp, HRNG.out⟩
  case round =>
    obtain ⟨left, rest, done, A, c, rfl, hgf, hlp, hdp, hR, hbw, hsz, hrg⟩ := hrel
    have hne : kn ≠ w.heap.size := by omega
    have hdl : done.length ≤ m.length := by have := hdp.length_eq; rw [List.length_append] at this; omega
    have hdl2 : (done.map (·.1)).length ≤ 1000000000 := by rw [List.length_map]; have := HL.out; omega
    obtain ⟨ks, hks⟩ : ∃ ks, done.map (·.1) = ks := ⟨_, rfl⟩
    rw [hks] at hR hdl2
    have HKS := Lib.hid hks
    rw [hks]
    clear hks
    rcases run_next (P := Try.prog) left hrg hne 0 with ⟨rfl, hnx⟩ | ⟨x, left', w1, o1, hpx, hw1, hnx, hrg1, hcur⟩
    · have hr0 : rest = [] := by
        have := hlp.length_eq
        simp at this
        exact List.eq_nil_of_length_eq_zero this.symm
      subst hr0
      rw [List.append_nil] at hdp
      have hsort := sort_names HS.out (hdp.map (·.1))
      rw [HKS.out] at hsort
      have HSW := Lib.hid (fun W (hW : Kd.R Kd.string 9 W (w.heap.size + 1) (fun k => w.heap.size + 1 ≤ k) (.slice A ks.length c) ks) => sort_walk hW (by omega) hsort)
      have HR := Lib.hid hR
      have HBW := Lib.hid hbw
      clear hR hbw hsort hdp hlp hrg
      go_wp2_with (first | (go_at_call 54; refine (HSW.out _ HR.out).mono ?_; rintro e w9 ⟨rfl, hr9, hg9⟩))
      go_ret
      refine ⟨_, rfl, Kd.R_lower (Kd.R_mono hr9 (fun k hk => by omega)) (by omega), Below.grown HBW.out hg9 (by omega) (fun k hk => by have := HR.out.1 k hk; omega)⟩
    · obtain ⟨y, rest', hry, hxy, hlp'⟩ := perm_step hlp hpx
      obtain ⟨n, f⟩ := y
      have hdp' : (done ++ [(n, f)] ++ rest').Perm m := by
        refine List.Perm.trans ?_ hdp
        rw [List.append_assoc]
        exact (hry.symm.append_left done)
      have hB2 := below_setBlock (o := o1) (below_either hbw hw1) (Nat.le_refl w.heap.size)
      have hent := run_entry (P := Try.prog) x hcur
      subst hxy
      replace hent : (Instr.entry (.pointer (some ⟨w.heap.size, 0, none⟩))).run Try.prog (setBlock w1 w.heap.size o1) = .ok (.tuple #[.string n, .pointer (some ⟨blk f, 0, none⟩)]) (setBlock w1 w.heap.size o1) := hent
      replace hnx : (Instr.next (.pointer (some ⟨w.heap.size, 0, none⟩)) false 0).run Try.prog wr = .ok (.tuple #[.bool true, .string n, .pointer (some ⟨blk f, 0, none⟩)]) (setBlock w1 w.heap.size o1) := hnx
      have hsz2 : w.heap.size < (setBlock w1 w.heap.size o1).heap.size := by
        unfold setBlock; simp
        rcases hw1 with rfl | rfl
        · exact hsz
        · exact hsz
      have hR2 : Kd.R Kd.string 9 (setBlock w1 w.heap.size o1) (w.heap.size + 1) (fun k => w.heap.size + 1 ≤ k) (.slice A ks.length c) ks := by
        refine Kd.R_step hR (fun k hk _ => (set_other (by omega)).trans ?_)
        rcases hw1 with rfl | rfl <;> rfl
      obtain ⟨W2, hW2⟩ : ∃ W2, setBlock w1 w.heap.size o1 = W2 := ⟨_, rfl⟩
      rw [hW2] at hnx hent hB2 hrg1 hsz2 hR2
      have HB2 := Lib.hid hB2
      have HRG1 := Lib.hid hrg1
      have HDP := Lib.hid hdp'
      have HLP := Lib.hid hlp'
      have HR2 := Lib.hid hR2
      have HSZ2 := Lib.hid hsz2
      have HNE := Lib.hid hne
      have hlen := hry.length_eq
      rw [List.length_cons] at hlen
      obtain ⟨g', rfl⟩ : ∃ g', gk = g' + 1 := ⟨gk - 1, by omega⟩
      clear hW2 hB2 hrg1 hdp' hlp' hw1 hcur hpx hlp hdp hrg hbw hry hR hR2 hne
      go_wp2_with (first | (at_builtin; refine Kd.R_append Kd.string (W := W2) (w0 := W2) (w.heap.size + 1) rfl (.tmp 11) (.tmp 13) 38 9 (.string ⟨#[]⟩) 16 rfl Try.underlying38 info9 rfl (by decide) (by decide) (.slice A ks.length c) ks n [.string n] (fun k => w.heap.size + 1 ≤ k) (fun _ => False) rfl rfl rfl (fun _ hk => hk.elim) (fun k hk => by omega) HR2.out (Below.refl _ _) (by omega) (by omega) ?_; intro v1 w3 hr3 hb3 hg3 hat3))
      go_roundg g'
      case measure => omega
      case rel =>
        obtain ⟨A1, c1, rfl⟩ := Kd.R_slice hr3
        refine ⟨left', rest', done ++ [(n, f)], A1, c1, by rw [List.map_append, HKS.out]; rfl, by omega, HLP.out, HDP.out, ?_, Below.grown HB2.out hg3 (by omega) (fun k hk => by have := HR2.out.1 k hk; omega), by have := hg3.size; omega, HRG1.out.move (hg3.block _ (by omega) (fun e => ?_)) (hg3.block _ (by omega) (fun e => ?_))⟩
        · rw [List.map_append, HKS.out]; exact hr3
        · have := HR2.out.1 _ e.symm; omega
        · have := HR2.out.1 _ e.symm; omega

theorem list_on (own : Own) (w : World) (kd : Nat) (blk : Nat → Nat) (d : Dk) (h : Rep own w kd blk d) (hs : Srt d.names) (hl : d.names.length ≤ 1000000000) (hoff : d.off = false) :
    Calls Try.prog 16 #[ptr kd] w fun e w' => ∃ v, e = .returned (.tuple #[v, .int .i64 0]) ∧ Kd.R Kd.string 9 w' w.heap.size (fun k => w.heap.size ≤ k) v (d.names.map (·.1)) ∧ Below w.heap.size w w' := by
  obtain ⟨kn, ks, vc, o1, o2, b0, b1, _, _⟩ := h.body
  have c1 := blk_cell b0 1
  have c2 := blk_cell b0 2
  simp [hoff] at c1 c2
  have HSO := Lib.hid (sorted_walk w kn blk d.names b1 hs hl)
  clear b0 b1 hs hl hoff h
  unfold ptr
  go_enter Try.func16, Try.ntmps16
  go_wp2_with fail
  refine HSO.out.mono ?_
  rintro e w1 ⟨v, rfl, hr, hb⟩
  go_wp2_with fail
  go_ret2
  exact ⟨v, rfl, hr, hb⟩
theorem list_off (own : Own) (w : World) (kd : Nat) (blk : Nat → Nat) (d : Dk) (h : Rep own w kd blk d) (hoff : d.off = true) :
    Calls Try.prog 16 #[ptr kd] w fun e w' => e = .returned (.tuple #[.slice none 0 0, .int .i64 115]) ∧ w' = w := by
  obtain ⟨kn, ks, vc, o1, o2, b0, b1, _, _⟩ := h.body
  have c1 := blk_cell b0 1
  simp [hoff] at c1
  clear b0 b1 hoff h
  unfold ptr
  go_enter Try.func16, Try.ntmps16
  go_wp2_with fail
  go_ret2
  exact ⟨rfl, rfl⟩
end Go.Proofs.Ytonecajkfbdnmaa.Dk
