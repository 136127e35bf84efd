/- The walk of refs.Merge: what it tells is the merge of what it is handed. -/
import Derived.Test.YtkjaffnplehhaaaRgH
namespace Go.Proofs.Ytkjaffnplehhaaa.Rg
open Go Go.Lib Go.RowKit Go.ChangeMaps Go.Proofs.YtkjaffnplehhaaaW.PrintWords Go.Proofs.YtkjaffnplehhaaaW.PrintLast Go.Proofs.YtkjaffnplehhaaaW.PrintMore Go.Proofs.Ytkjaffnplehhaaa.PRefsMerge Go.Sort
set_option linter.unusedVariables false
set_option linter.unusedSimpArgs false
theorem R_oks {w : World} {e B : Nat} {ok : Nat → Prop} {v : Value} {L : List Stp} (h : Kd.R kSt e w B ok v L) : ∀ x ∈ L, x.Ok := by
  obtain ⟨A, c, rfl⟩ := Kd.R_slice h
  obtain ⟨_, _, hC⟩ := Kd.R_reads' h
  intro x hx
  obtain ⟨i, hi, rfl⟩ := List.mem_iff_getElem.1 hx
  obtain ⟨ad, _, hc⟩ := hC.2.2 (by omega)
  obtain ⟨c, _, hk, _⟩ := hc i _ (List.getElem?_eq_getElem hi)
  exact hk.1
/-- A row of one's own with a block. -/
theorem R_row {w : World} {B b : Nat} {ok : Nat → Prop} {v : Value} {L : List Stp} (h : Kd.R kSt 32 w B ok v L) (hb : v.ownBlock = some b) :
    ∃ g cap, v = sl g L.length cap ∧ B ≤ g ∧ g < w.heap.size ∧ L.length ≤ cap ∧ RowAt w g L := by
  obtain ⟨inner, ho⟩ := Kd.R_own h
  rcases ho.2 with ⟨rfl, _⟩ | ⟨g, cap, cur, rfl, hg, hh, hc, _⟩
  · simp [Value.ownBlock] at hb
  · obtain ⟨_, _, hC⟩ := Kd.R_reads' h
    refine ⟨g, cap, rfl, hg, blk_lt hh, hc, fun i hi j u hj => ⟨?_, blk_frozen hh _⟩⟩
    obtain ⟨ad, he, hcell⟩ := hC.2.2 (by omega)
    obtain ⟨c, _, hk, hcl⟩ := hcell i _ (List.getElem?_eq_getElem hi)
    have := hcl j u (by rw [hk.2]; exact hj)
    obtain rfl : (⟨g, 0, none⟩ : Addr) = ad := Option.some.inj he
    rwa [Addr.add_lit, Nat.zero_add] at this
def mkO (x : Stp) (h : x.Ok) : OSt := ⟨x, h⟩
def oArr (L : List Stp) (h : ∀ x ∈ L, x.Ok) : Array OSt := (L.pmap mkO h).toArray
theorem oArr_size (L : List Stp) (h : ∀ x ∈ L, x.Ok) : (oArr L h).size = L.length := by
  unfold oArr
  rw [List.size_toArray, List.length_pmap]
theorem oArr_map (L : List Stp) (h : ∀ x ∈ L, x.Ok) : (oArr L h).toList.map (·.1) = L := by
  unfold oArr
  rw [List.toList_toArray]
  refine List.ext_getElem (by rw [List.length_map, List.length_pmap]) (fun i h1 h2 => ?_)
  rw [List.getElem_map, List.getElem_pmap]
  rfl
theorem oArr_get (L : List Stp) (h : ∀ x ∈ L, x.Ok) (i : Nat) (hi : i < L.length) : (oArr L h)[i]! = mkO L[i] (h _ (List.getElem_mem hi)) := by
  rw [getElem!_pos _ _ (by rw [oArr_size]; exact hi)]
  unfold oArr
  rw [List.getElem_toArray, List.getElem_pmap]
theorem encO_len (x : OSt) : (encO x).length = 34 := encSt_len x.2
theorem holdsK_of_row {w : World} {g : Nat} {L : List Stp} (hok : ∀ x ∈ L, x.Ok) (h : RowAt w g L) : HoldsK encO 34 w g 0 (oArr L hok) := by
  intro j hj
  rw [size_flatK, oArr_size] at hj
  rw [get_flatK _ _ _ _ (by rw [oArr_size]; exact hj)]
  have hq : j / 34 < L.length := by omega
  rw [oArr_get L hok _ hq]
  have hl : j % 34 < (encO (mkO L[j / 34] (hok _ (List.getElem_mem hq)))).length := by rw [encO_len]; omega
  rw [getElem!_pos (encO (mkO L[j / 34] (hok _ (List.getElem_mem hq)))) (j % 34) hl]
  have := h (j / 34) hq (j % 34) (encO (mkO L[j / 34] (hok _ (List.getElem_mem hq))))[j % 34] (List.getElem?_eq_getElem hl)
  rw [show j / 34 * 34 + j % 34 = j by omega] at this
  rw [Nat.zero_add]
  exact this
theorem row_of_holdsK {w : World} {g : Nat} (d : Array OSt) (h : HoldsK encO 34 w g 0 d) : RowAt w g (d.toList.map (·.1)) := by
  intro i hi j v hj
  have hi' : i < d.size := by simpa using hi
  have hjl := (List.getElem?_eq_some_iff.1 hj).1
  rw [List.getElem_map, Array.getElem_toList] at hj hjl
  have hj34 : j < 34 := by rw [encSt_len (d[i]).2] at hjl; exact hjl
  obtain ⟨h1, h2⟩ := h.cell (i := i) (c := j) hi' hj34
  rw [Nat.zero_add] at h1 h2
  refine ⟨?_, h2⟩
  rw [h1, getElem!_pos d i hi', getElem!_pos (encO d[i]) j (by rw [encO_len]; exact hj34)]
  rw [List.getElem?_eq_getElem hjl] at hj
  exact hj
theorem below_sortWorld (w : World) (g n B : Nat) (d : Array OSt) (os : Array Obj) (hB : B ≤ g) (hs : B ≤ w.heap.size) : Below B w (sortWorldK encO 34 w g 0 n d os) := by
  refine ⟨rfl, rfl, rfl, ?_, fun k hk => ?_⟩
  · simp only [sortWorldK, size_grow, size_putRowK]
    show w.heap.size ≤ w.heap.size + _
    omega
  · have hk' : k < w.heap.size := by omega
    simp only [sortWorldK, grow, putRowK, putRow, mapBlock, ahead]
    rw [Array.getElem?_append_left (by simpa [Sort.ahead] using hk'), Array.getElem?_modify, if_neg (by omega)]
    rfl
theorem cmpLaysO (g size : Nat) (w : World) : CmpLays Try.prog 11 #[] encO 34 cfO g 0 size w := fun m os dk _ x y => by
  have h := cmp_clo x.1 y.1 x.2 y.2 (sortWorldK encO 34 w g 0 m dk os)
  exact h
/-- What SortFunc leaves. -/
theorem sort_walk (L : List Stp) (g cap B : Nat) (w0 w : World) (hok : ∀ x ∈ L, x.Ok) (hR : RowAt w g L) (hg : g < w.heap.size) (hb : Below B w0 w) (hB : B ≤ g) (hl : L.length ≤ 4000000000) :
    Calls Try.prog 10 #[sl g L.length cap, .func (.func 11) #[] #[]] w fun e w' => ∃ D, e = .returned (.tuple #[]) ∧ D.Perm L ∧ D.Pairwise leS ∧ RowAt w' g D ∧ Below B w0 w' ∧ g < w'.heap.size := by
  have eg : ∀ args w, (callFunc 11 args).run Try.prog w = .ok (.enter 11 args) w := enters_of Try.func11 (by kernel_rfl) rfl
  have hH := holdsK_of_row hok hR
  have hcon := AnyQ.slices_SortFunc Try.sortSt 34 Try.isAgg32 Try.sizeOf32 encO encO_len (fun x v hv => encSt_one _ v hv) cfO swoO 11 #[] g 0 cap (oArr L hok) w eg (cmpLaysO g _ w) hH hg (by rw [oArr_size]; omega)
  rw [oArr_size] at hcon
  refine Calls.mono hcon ?_
  rintro e w' ⟨rfl, d', n, os, hp, hs, rfl⟩
  have hsz : d'.size = L.length := by rw [hp.1, oArr_size]
  have hperm : (d'.toList.map (·.1)).Perm L := by
    have h := hp.2.2
    rw [← oArr_size L hok] at h
    rw [Array.extract_size] at h
    rw [show (oArr L hok).size = d'.size by rw [hp.1], Array.extract_size] at h
    have h2 := h.map (fun x : OSt => x.1)
    rwa [oArr_map] at h2
  refine ⟨d'.toList.map (·.1), rfl, hperm, ?_, ?_, hb.trans (below_sortWorld w g n B d' os hB (by omega)), ?_⟩
  · rw [List.pairwise_map, List.pairwise_iff_getElem]
    intro i j hi hj hij
    have hi' : i < d'.size := by simpa using hi
    have hj' : j < d'.size := by simpa using hj
    have h := hs i j (Nat.zero_le _) hij (by omega)
    rw [getElem!_pos d' i hi', getElem!_pos d' j hj', ltO_false] at h
    simpa using h
  · exact row_of_holdsK d' (holdsK_sortWorldK encO 34 w g 0 n (oArr L hok) d' os hg hH (by rw [hsz, oArr_size]))
  · simp only [sortWorldK, size_grow, size_putRowK]
    show g < w.heap.size + _
    omega
/-- What refs.Merge tells. -/
def Told (l m : List Stp) (w : World) (e : Ending) (w' : World) : Prop := ∃ g k cap, e = .returned (sl g k.length cap) ∧ IsMerge (l ++ m) k ∧ RowAt w' g k ∧ (∀ x ∈ k, x.Ok) ∧ w.heap.size ≤ g ∧ g < w'.heap.size ∧ k.length ≤ cap ∧ Below w.heap.size w w'
theorem firsts_len : ∀ (p : Option By) (s : List Stp), (firsts p s).length ≤ s.length
  | _, [] => Nat.le_refl _
  | p, y :: r => by
    unfold firsts
    split
    · exact Nat.le_succ_of_le (firsts_len _ r)
    · exact Nat.succ_le_succ (firsts_len _ r)
theorem R_lit0 (w : World) : Kd.R kSt 32 (w.alloc (.cells #[] 32)) w.heap.size (fun k => w.heap.size ≤ k) (sl w.heap.size 0 0) [] := by
  refine ⟨fun k hk => ?_, [], ?_, ⟨by simp, fun j p h => by simp at h⟩⟩
  · have : w.heap.size = k := by simpa [Value.ownBlock] using hk
    omega
  · have h2 := World.ownsRow_lit (base := w.heap.size) (e := 32) (size := 34) w #[] 0 (Nat.le_refl _) (by decide) (by simp)
    exact h2
theorem own_some {a b : Value} {n : Nat} (h : b.ownBlock = a.ownBlock ∨ ∃ k, b.ownBlock = some k ∧ n ≤ k) {q : Nat} (ha : a.ownBlock = some q) : ∃ q, b.ownBlock = some q := by
  rcases h with h | ⟨k, h, _⟩
  · exact ⟨q, h.trans ha⟩
  · exact ⟨k, h⟩
set_option maxRecDepth 100000 in
set_option maxHeartbeats 4000000 in
theorem rmerge_walk (l m : List Stp) (A B : Option Addr) (c d : Nat) (w : World) (hA : Kd.C kSt w A l.length l) (hB : Kd.C kSt w B m.length m) (hl : l.length + m.length ≤ 1000000000) :
    Calls Try.prog 5 #[.slice A l.length c, .slice B m.length d] w (Told l m w) := by
  have HA := Lib.hid hA
  have HB := Lib.hid hB
  have HR0 := Lib.hid (R_lit0 w)
  have HB0 := Lib.hid (show Below w.heap.size w (w.alloc (.cells #[] 32)) from below_alloc (Below.refl _ _) _)
  have HS0 := Lib.hid (show (sl w.heap.size 0 0).ownBlock = some w.heap.size from by simp [Value.ownBlock])
  clear hA hB
  go_enter Try.func5, Try.ntmps5
  go_upto_region 2 with (first | (at_builtin; refine Kd.R_append_rows kSt (Rr := fun x cs => x.Ok ∧ cs = encSt x) (w0 := w) (W := (w.alloc (.cells #[] 32))) w.heap.size rfl (.tmp 6) (.tmp 7) 22 32 _ 56 rfl Try.underlying22 info32 (by decide) (by decide) (by decide) _ [] l A l.length c (fun k => w.heap.size ≤ k) (fun _ => False) rfl rfl HR0.out (Kd.C_below HA.out HB0.out) (fun _ _ h => h) (fun _ hk => hk.elim) (fun k hk => Nat.le_trans HB0.out.size hk) HB0.out HB0.out.size (by simp; omega) ?_; intro v1 w1 hr1 hb1 hg1 hat1; have HR1 := Lib.hid hr1; have HB1 := Lib.hid hb1; have HS1 := Lib.hid (own_some hat1 HS0.out); clear hr1 hb1 hg1 hat1) | (at_builtin; refine Kd.R_append_rows kSt (Rr := fun x cs => x.Ok ∧ cs = encSt x) (w0 := w) (W := w1) w.heap.size rfl (.tmp 8) (.tmp 9) 22 32 _ 56 rfl Try.underlying22 info32 (by decide) (by decide) (by decide) _ _ m B m.length d (fun k => w.heap.size ≤ k) (fun _ => False) rfl rfl HR1.out (Kd.C_below HB.out HB1.out) (fun _ _ h => h) (fun _ hk => hk.elim) (fun k hk => Nat.le_trans HB1.out.size hk) HB1.out HB1.out.size (by simp; omega) ?_; intro v2 w2 hr2 hb2 hg2 hat2; have HR2 := Lib.hid hr2; have HB2 := Lib.hid hb2; have HS2 := Lib.hid (own_some hat2 HS1.out.choose_spec); clear hr2 hb2 hg2 hat2))
  rw [List.nil_append] at HR2
  have HL := Lib.hid (show (l ++ m).length ≤ 4000000000 by rw [List.length_append]; omega)
  obtain ⟨L, hL⟩ : ∃ L, l ++ m = L := ⟨_, rfl⟩
  rw [hL] at HR2 HL
  have HLM := Lib.hid hL
  clear hL
  have HOK := Lib.hid (R_oks HR2.out)
  obtain ⟨g, cap, rfl, hg, hgl, hc, hrow⟩ := R_row HR2.out HS2.out.choose_spec
  have HG := Lib.hid hg
  have HGL := Lib.hid hgl
  have HC := Lib.hid hc
  have HSO := Lib.hid (sort_walk L g cap w.heap.size w w2 HOK.out hrow hgl HB2.out hg HL.out)
  clear hg hgl hc hrow HR0 HB0 HS0 HR1 HB1 HS1 HA HB HS2 HR2 hl
  unfold sl at HSO
  go_upto_region 3 with (go_at_call 10; refine HSO.out.mono ?_; rintro e w3 ⟨D, rfl, hp, hs, hr, hb, hg3⟩; have HP := Lib.hid hp; have HS := Lib.hid hs; have HR := Lib.hid hr; have HB := Lib.hid hb; have HG3 := Lib.hid hg3; clear hp hs hr hb hg3)
  have HN := Lib.hid (show L.length = D.length from HP.out.length_eq.symm)
  have HOD := Lib.hid (show ∀ x ∈ D, x.Ok from fun x hx => HOK.out x (HP.out.mem_iff.1 hx))
  have HCW := Lib.hid (compact_walk D g cap w w.heap.size w3 HOD.out HR.out HG3.out HB.out HG.out (by rw [← HN.out]; exact HC.out) (by rw [← HN.out]; exact HL.out))
  unfold sl at HCW
  obtain ⟨N, hN⟩ : ∃ N, D.length = N := ⟨_, rfl⟩
  rw [HN.out, hN]
  rw [hN] at HCW
  clear HSO hN
  go_wp2_with (go_at_call 14; refine HCW.out.mono ?_; rintro e w4 ⟨rfl, hr, hb, hg⟩; have HR4 := Lib.hid hr; have HB4 := Lib.hid hb; have HG4 := Lib.hid hg; clear hr hb hg)
  go_ret
  exact ⟨g, firsts none D, cap, rfl, by rw [HLM.out]; exact sorted_merge HP.out HS.out, HR4.out, fun x hx => HOD.out x (firsts_mem _ _ _ hx), HG.out, HG4.out, Nat.le_trans (firsts_len _ _) (by rw [← HN.out]; exact HC.out), HB4.out⟩
end Go.Proofs.Ytkjaffnplehhaaa.Rg
