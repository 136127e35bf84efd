/- The walks of the children of a thing: a blob's, a tag's, a tree's, a commit's. -/
import Derived.Test.YtfbkkcigkpffiaaDoorGk
namespace Go.Proofs.YtfbkkcigkpffiaaDoor.St
open Go Go.Lib Go.RowKit Go.ChangeMaps Go.Proofs.YtfbkkcigkpffiaaDoorW.PrintWords Go.Proofs.YtfbkkcigkpffiaaDoorW.PrintLast Go.Proofs.YtfbkkcigkpffiaaDoorW.PrintMore Go.Proofs.YtfbkkcigkpffiaaDoor.PStoreMany
set_option linter.unusedVariables false
set_option linter.unusedSimpArgs false
/-- A link. -/
structure Lnk where
  id : By
  kd : Int
def lnkC (x : Lnk) : List Value := cl x.id ++ [.int .i64 x.kd]
theorem lnkC_len {x : Lnk} (h : x.id.length = 32) : (lnkC x).length = 33 := by simp [lnkC, h]
theorem lnkC_one (x : Lnk) : ∀ u ∈ lnkC x, u.oneCell' = true := fun u hu => by
  unfold lnkC at hu
  rcases List.mem_append.1 hu with hu | hu
  · obtain ⟨b, _, rfl⟩ := List.mem_map.1 hu; rfl
  · rw [List.mem_singleton.1 hu]; rfl
/-- A link, by its 33 cells alone. -/
def kL : Kd Lnk where
  sz := 33
  E := []
  K := fun _ x cs => x.id.length = 32 ∧ cs = lnkC x
  M := fun _ _ _ x cs => x.id.length = 32 ∧ cs = lnkC x
  K_len := fun h => by rw [h.2]; exact lnkC_len h.1
  K_one := fun h => by rw [h.2]; exact lnkC_one _
  K_below := fun _ h => h
  K_of_M := fun h => h
  M_mono := fun _ h => h
  M_bound := fun h => h
  M_move := fun _ h => h
  M_lower := fun _ h => h
theorem info97 : (Tryd.prog.info? 97).map (fun i => (i.zero, i.size, i.bytes)) = some (some (.agg (lnkC ⟨zid, 0⟩).toArray), kL.sz, 40) := by kernel_rfl
theorem lnk_lit {d : By} (hd : d.length = 32) (x : Int) : (((cl d).zipIdx).foldl (fun cs x => cs.setIfInBounds x.snd x.fst) #[Value.int .u8 0, Value.int .u8 0, Value.int .u8 0, Value.int .u8 0, Value.int .u8 0, Value.int .u8 0, Value.int .u8 0, Value.int .u8 0, Value.int .u8 0, Value.int .u8 0, Value.int .u8 0, Value.int .u8 0, Value.int .u8 0, Value.int .u8 0, Value.int .u8 0, Value.int .u8 0, Value.int .u8 0, Value.int .u8 0, Value.int .u8 0, Value.int .u8 0, Value.int .u8 0, Value.int .u8 0, Value.int .u8 0, Value.int .u8 0, Value.int .u8 0, Value.int .u8 0, Value.int .u8 0, Value.int .u8 0, Value.int .u8 0, Value.int .u8 0, Value.int .u8 0, Value.int .u8 0, Value.int .i64 0]).setIfInBounds 32 (.int .i64 x) = (lnkC ⟨d, x⟩).toArray := by
  rw [fill_id hd _ (by decide)]
  simp [lnkC, hd]
/-- What a thing names. -/
def kids : Th → List Lnk
  | .blob _ => []
  | .tree es => es.map fun x => ⟨x.id, if x.md = 4 then 2 else 1⟩
  | .com v => ⟨v.id, 2⟩ :: v.ps.map fun p => ⟨p, 3⟩
  | .tag v => [⟨v.id, v.kd⟩]
/-- Links as a value. -/
def LinksAt (w : World) (v : Value) (l : List Lnk) : Prop := ∃ A c, v = .slice A l.length c ∧ l.length ≤ c ∧ Kd.C kL w A l.length l
theorem LinksAt.below {w w' : World} {v : Value} {l : List Lnk} (h : LinksAt w v l) (hb : Below w.heap.size w w') : LinksAt w' v l := by
  obtain ⟨A, c, h1, h2, h3⟩ := h
  exact ⟨A, c, h1, h2, Kd.C_below h3 hb⟩
theorem R_links {w : World} {e B : Nat} {ok : Nat → Prop} {v : Value} {l : List Lnk} (h : Kd.R kL e w B ok v l) : LinksAt w v l := by
  obtain ⟨A, c, rfl⟩ := Kd.R_slice h
  obtain ⟨_, h2, h3⟩ := Kd.R_reads' h
  exact ⟨A, c, rfl, h2, h3⟩
set_option maxRecDepth 100000 in
theorem blob_kids (v : Value) (w : World) : Calls Tryd.prog 103 #[v] w fun e w' => e = .returned (.slice none 0 0) ∧ w' = w := by
  go_enter Tryd.func103, Tryd.ntmps103
  go_wp2_with fail
  go_ret
  exact ⟨rfl, rfl⟩
/-- A row of one link of one's own. -/
theorem R_one (w : World) (x : Lnk) (hx : x.id.length = 32) : Kd.R kL 97 (w.alloc (.cells (lnkC x).toArray 97)) w.heap.size (fun k => w.heap.size ≤ k) (.slice (some ⟨w.heap.size, 0, none⟩) 1 1) [x] := by
  refine ⟨fun k hk => ?_, lnkC x, ?_, ⟨?_, fun j p hj => ?_⟩⟩
  · have : w.heap.size = k := by simpa [Value.ownBlock] using hk
    omega
  · exact World.ownsRow_lit (base := w.heap.size) (e := 97) (size := 33) w (lnkC x).toArray 1 (Nat.le_refl _) (by decide) (by rw [List.size_toArray, lnkC_len hx])
  · rw [lnkC_len hx]; rfl
  · have h0 : j = 0 := by
      have := (List.getElem?_eq_some_iff.1 hj).1
      simpa using this
    subst h0
    obtain rfl : x = p := by simpa using hj
    refine ⟨hx, ?_⟩
    show ((lnkC x).drop (0 * 33)).take 33 = lnkC x
    rw [Nat.zero_mul, List.drop_zero, List.take_of_length_le (by rw [lnkC_len hx]; exact Nat.le_refl _)]
end Go.Proofs.YtfbkkcigkpffiaaDoor.St

namespace Go.Proofs.YtfbkkcigkpffiaaDoor.St
open Go Go.Lib Go.RowKit Go.ChangeMaps Go.Proofs.YtfbkkcigkpffiaaDoorW.PrintWords Go.Proofs.YtfbkkcigkpffiaaDoorW.PrintLast Go.Proofs.YtfbkkcigkpffiaaDoorW.PrintMore Go.Proofs.YtfbkkcigkpffiaaDoor.PStoreMany
set_option linter.unusedVariables false
set_option linter.unusedSimpArgs false
set_option maxRecDepth 100000 in
set_option maxHeartbeats 4000000 in
theorem tag_kids (v : TagV) (hv : v.id.length = 32) (w : World) : Calls Tryd.prog 121 #[.agg v.cells.toArray] w fun e w' => ∃ l, e = .returned l ∧ LinksAt w' l (kids (.tag v)) ∧ Below w.heap.size w w' := by
  obtain ⟨d, kd, nm, who, tm, tx⟩ := v
  obtain ⟨w1, hw1⟩ : ∃ w1, w.alloc (.cells (TagV.cells ⟨d, kd, nm, who, tm, tx⟩).toArray 117) = w1 := ⟨_, rfl⟩
  have HW1 := Lib.hid hw1
  have HB1 := Lib.hid (show Below w.heap.size w w1 from hw1 ▸ below_alloc (Below.refl _ _) _)
  have HI := Lib.hid (show Blk w1 w.heap.size 117 (TagV.cells ⟨d, kd, nm, who, tm, tx⟩) from hw1 ▸ Blk.new w 117 _)
  have hdl : d.length = 32 := hv
  have c1 : w1.cell? ⟨w.heap.size, 32, none⟩ = some (.int .i64 kd) := by
    rw [HI.out.cell]
    unfold TagV.cells
    rw [List.getElem?_append_right (by rw [List.length_map]; show d.length ≤ _; omega), List.length_map, show d.length = 32 from hv]
    rfl
  have HCA := Lib.hid (show CellsAt w1 ⟨w.heap.size, 0, none⟩ (cl d) from fun j v hj => by
    rw [Addr.add_lit, Nat.zero_add, HI.out.cell]
    unfold TagV.cells
    rw [List.getElem?_append_left (List.getElem?_eq_some_iff.1 hj).1]
    exact hj)
  have HLD := Lib.hid (HCA.out.load 33 Tryd.isAgg33 (fun W => by rw [List.length_map, hdl]; exact Tryd.sizeOf33 W))
  have hfl := lnk_lit hdl kd
  obtain ⟨E, hE⟩ : ∃ E, lnkC ⟨d, kd⟩ = E := ⟨_, rfl⟩
  have HEE := Lib.hid hE
  have HEL := Lib.hid (show E.length = 33 from hE ▸ lnkC_len hdl)
  have hel := HEL.out
  have HR := Lib.hid (R_one w1 ⟨d, kd⟩ hdl)
  have hfz := fun z => fill_size (cl d) 0 z
  rw [hE] at hfl HR
  clear hw1 hv hE
  go_enter Tryd.func121, Tryd.ntmps121
  go_upto_region 1 with fail
  change Code.wp _ _ _ _ (w.alloc (.cells (TagV.cells ⟨d, kd, nm, who, tm, tx⟩).toArray 117))
  rw [HW1.out]
  go_wp2_with (with_reducible refine wpList_ld rfl 33 (.tmp 3) rfl ⟨w.heap.size, 0, none⟩ rfl _ HLD.out ?_)
  try rw [fill_all _ _ (HEL.out.trans rfl)]
  go_ret
  exact ⟨_, rfl, R_links HR.out, below_alloc HB1.out _⟩
end Go.Proofs.YtfbkkcigkpffiaaDoor.St

namespace Go.Proofs.YtfbkkcigkpffiaaDoor.St
open Go Go.Lib Go.RowKit Go.ChangeMaps Go.Proofs.YtfbkkcigkpffiaaDoorW.PrintWords Go.Proofs.YtfbkkcigkpffiaaDoorW.PrintLast Go.Proofs.YtfbkkcigkpffiaaDoorW.PrintMore Go.Proofs.YtfbkkcigkpffiaaDoor.PStoreMany
set_option linter.unusedVariables false
set_option linter.unusedSimpArgs false
set_option maxRecDepth 100000 in
set_option maxHeartbeats 8000000 in
theorem tree_kids (es : List Ent) (A : Option Addr) (c : Nat) (w : World) (hn : es.length ≤ 1000000000) (hC : Kd.C kE w A es.length es) :
    Calls Tryd.prog 106 #[.slice A es.length c] w fun e w' => ∃ l, e = .returned l ∧ LinksAt w' l (kids (.tree es)) ∧ Below w.heap.size w w' := by
  have HC := Lib.hid hC
  have HKD := Lib.hid (show ∀ i (h : i < es.length), (kids (.tree es)).take (i + 1) = (kids (.tree es)).take i ++ [⟨es[i].id, if es[i].md = 4 then 2 else 1⟩] from fun i h => by
    have hl : i < (kids (.tree es)).length := by unfold kids; rw [List.length_map]; exact h
    rw [List.take_succ_eq_append_getElem hl]
    congr 2
    simp only [kids, List.getElem_map])
  have HKA := Lib.hid (show (kids (.tree es)).take es.length = kids (.tree es) from List.take_of_length_le (by unfold kids; rw [List.length_map]; exact Nat.le_refl _))
  obtain ⟨ks, hks⟩ : ∃ ks, kids (.tree es) = ks := ⟨_, rfl⟩
  rw [hks] at HKD HKA ⊢
  obtain ⟨N, hN⟩ : ∃ N, es.length = N := ⟨_, rfl⟩
  have HN := Lib.hid hN
  rw [hN] at hn HKA ⊢
  clear hC hks hN
  go_enter Tryd.func106, Tryd.ntmps106
  go_wp2_with fail
  go_loopw [3, 9] (fun v3 v9 wr => ∃ (i : Nat) (done : List Lnk) (A' : Option Addr) (c' : Nat), i ≤ N ∧ done.length = i ∧ Hid (done = ks.take i) ∧ v9 = .int .i64 i ∧ v3 = .slice A' i c' ∧ Kd.R kL 97 wr w.heap.size (fun q => w.heap.size ≤ q) (.slice A' i c') done ∧ Below w.heap.size w wr) (fun _ v9 _ => N - (RowKit.intOf v9).toNat)
  case atStart => exact ⟨0, [], none, 0, Nat.zero_le _, rfl, Lib.hid (by simp), rfl, rfl, Kd.R_nil _ _ _ _ _, Below.refl _ _⟩
  case round =>
    obtain ⟨i, done, A', c', hi, hdl, HD, rfl, rfl, hR, hbw⟩ := hrel
    have HBW := Lib.hid hbw
    have HR := Lib.hid hR
    have HDL := Lib.hid hdl
    clear hbw hR hdl
    by_cases hlt : i < N
    · have hlt' : (i : Int) < (N : Int) := by omega
      have hi0 : (0 : Int) ≤ (i : Int) := by omega
      have hil : i < es.length := by rw [HN.out]; exact hlt
      have HKI := Lib.hid (HKD.out i hil)
      obtain ⟨ad, rfl, hat, hx32⟩ := CE_at HC.out i hil
      obtain ⟨x, hx⟩ : ∃ x, es[i] = x := ⟨_, rfl⟩
      rw [hx] at hat hx32 HKI
      have HXL := Lib.hid hx32
      have HLD := Lib.hid ((hat.below HBW.out).load 135 Tryd.isAgg135 (fun W => by rw [entC_len HXL.out]; exact Tryd.sizeOf135 W))
      obtain ⟨w3, hw3⟩ : ∃ w3, wr.alloc (.cells (entC ⟨0, [], zid⟩).toArray 135) = w3 := ⟨_, rfl⟩
      have HW3 := Lib.hid hw3
      have HI3 := Lib.hid (show Blk w3 wr.heap.size 135 (entC ⟨0, [], zid⟩) from hw3 ▸ Blk.new wr 135 _)
      have HB3 := Lib.hid (show Below wr.heap.size wr w3 from hw3 ▸ below_alloc (Below.refl _ _) _)
      have HTH := Lib.hid (HI3.out.there 0 (entC x).toArray.size (by rw [List.size_toArray, entC_len HXL.out, zeroE135]; decide))
      have HSZ := Lib.hid (show (Tryd.prog.info? 135).map (·.size) = some (entC x).toArray.size from by rw [List.size_toArray, entC_len HXL.out]; exact size135)
      have HON := Lib.hid (all_oneCell_toArray (entC_one x))
      have HI4 := Lib.hid (entC_put HXL.out HI3.out)
      have HB4 := Lib.hid (show Below wr.heap.size wr (w3.setCells wr.heap.size 0 (entC x)) from (But.setCells (k := wr.heap.size) (entC x) 0 w3 (But.of_below HB3.out)).new (Nat.le_refl _))
      clear hw3 hx hat hx32
      go_upto_region 5 with (first | (with_reducible refine wpList_ld rfl 135 (.tmp 11) rfl (ad.add (i * 34)) rfl _ HLD.out ?_) | ((change wpList _ _ _ _ _ (wr.alloc (.cells (entC ⟨0, [], zid⟩).toArray 135))); rw [HW3.out]; refine wpList_store_mid rfl 135 (.tmp 5) (.tmp 12) rfl wr.heap.size 0 (entC x).toArray rfl rfl HTH.out HSZ.out HON.out ?_))
      obtain ⟨w4, hw4⟩ : ∃ w4, w3.setCells wr.heap.size 0 (entC x) = w4 := ⟨_, rfl⟩
      rw [hw4] at HI4 HB4 ⊢
      clear hw4 HLD HTH HSZ HON HI3 HB3 HW3
      try simp only [Act.put]
      have HB14 := Lib.hid (HBW.out.trans (HB4.out.mono HBW.out.size))
      have HR4 := Lib.hid (Kd.R_below HR.out HB4.out)
      have m0 : w4.cell? ⟨wr.heap.size, 0, none⟩ = some (.int .i64 x.md) := HI4.out.cell 0
      obtain ⟨r, hr⟩ : ∃ r, wr.heap.size = r := ⟨_, rfl⟩
      rw [hr] at m0 HI4 ⊢
      have HCA := Lib.hid (show CellsAt w4 ⟨r, 2, none⟩ (cl x.id) from fun j v hj => by
        rw [Addr.add_lit, HI4.out.cell]
        unfold entC
        rw [show 2 + j = j + 1 + 1 by omega, List.getElem?_cons_succ, List.getElem?_cons_succ]
        exact hj)
      have HLI := Lib.hid (HCA.out.load 33 Tryd.isAgg33 (fun W => by rw [List.length_map, HXL.out]; exact Tryd.sizeOf33 W))
      obtain ⟨md, hmd⟩ : ∃ md, x.md = md := ⟨_, rfl⟩
      obtain ⟨d, hd⟩ : ∃ d, x.id = d := ⟨_, rfl⟩
      rw [hmd] at m0 HKI
      rw [hd] at HLI HXL HKI
      clear hmd hd HCA HI4 hr
      have hdl := HXL.out
      by_cases h4 : md = 4
      · have e1 : (md == 4) = true := by simpa using h4
        rw [if_pos h4] at HKI
        have hfl := lnk_lit HXL.out 2
        obtain ⟨E, hE⟩ : ∃ E, lnkC ⟨d, 2⟩ = E := ⟨_, rfl⟩
        have HEE := Lib.hid hE
        have HEL := Lib.hid (show E.length = 33 from hE ▸ lnkC_len HXL.out)
        have hel := HEL.out
        have hfz := fun z => fill_size (cl d) 0 z
        rw [hE] at hfl
        clear hE h4
        go_wp2_with (first | (with_reducible refine wpList_ld rfl 33 (.tmp 17) rfl ⟨r, 2, none⟩ rfl _ HLI.out ?_) | (at_builtin; rw [fill_all _ _ (HEL.out.trans rfl)]; refine Kd.R_append kL (W := w4) (w0 := w) w.heap.size rfl (.tmp 16) (.tmp 21) 63 97 _ 40 rfl Tryd.underlying63 info97 (by decide) (by decide) (by decide) (.slice A' i c') done ⟨d, 2⟩ E (fun k => w.heap.size ≤ k) (fun _ => False) rfl (by simp [Act.eval]) ⟨HXL.out, HEE.out.symm⟩ (fun _ hk => hk.elim) (fun k hk => by have := HB14.out.size; omega) HR4.out HB14.out HB14.out.size (by rw [HDL.out]; omega) ?_; intro v5 w5 hr5 hb5 hg5 hat5; obtain ⟨A5, c5, hv5⟩ := Kd.R_slice hr5; rw [List.length_append, List.length_singleton, HDL.out] at hv5; subst hv5; have HR5 := Lib.hid hr5; have HB5 := Lib.hid hb5; clear hr5 hb5 hg5 hat5))
        clear hfl hel hfz e1
        go_roundw
        case rel =>
          refine ⟨i + 1, done ++ [⟨d, 2⟩], A5, c5, ?_, ?_, ?_, ?_, ?_, ?_, ?_⟩
          · omega
          · rw [List.length_append, List.length_singleton, HDL.out]
          · exact Lib.hid (by rw [HKI.out, HD.out])
          · go_num
          · rfl
          · exact HR5.out
          · exact HB5.out
        all_goals (simp only [RowKit.intOf]; omega)
      · have e1 : (md == 4) = false := by simpa using h4
        rw [if_neg h4] at HKI
        have hfl := lnk_lit HXL.out 1
        obtain ⟨E, hE⟩ : ∃ E, lnkC ⟨d, 1⟩ = E := ⟨_, rfl⟩
        have HEE := Lib.hid hE
        have HEL := Lib.hid (show E.length = 33 from hE ▸ lnkC_len HXL.out)
        have hel := HEL.out
        have hfz := fun z => fill_size (cl d) 0 z
        rw [hE] at hfl
        clear hE h4
        go_wp2_with (first | (with_reducible refine wpList_ld rfl 33 (.tmp 17) rfl ⟨r, 2, none⟩ rfl _ HLI.out ?_) | (at_builtin; rw [fill_all _ _ (HEL.out.trans rfl)]; refine Kd.R_append kL (W := w4) (w0 := w) w.heap.size rfl (.tmp 16) (.tmp 21) 63 97 _ 40 rfl Tryd.underlying63 info97 (by decide) (by decide) (by decide) (.slice A' i c') done ⟨d, 1⟩ E (fun k => w.heap.size ≤ k) (fun _ => False) rfl (by simp [Act.eval]) ⟨HXL.out, HEE.out.symm⟩ (fun _ hk => hk.elim) (fun k hk => by have := HB14.out.size; omega) HR4.out HB14.out HB14.out.size (by rw [HDL.out]; omega) ?_; intro v5 w5 hr5 hb5 hg5 hat5; obtain ⟨A5, c5, hv5⟩ := Kd.R_slice hr5; rw [List.length_append, List.length_singleton, HDL.out] at hv5; subst hv5; have HR5 := Lib.hid hr5; have HB5 := Lib.hid hb5; clear hr5 hb5 hg5 hat5))
        clear hfl hel hfz e1
        go_roundw
        case rel =>
          refine ⟨i + 1, done ++ [⟨d, 1⟩], A5, c5, ?_, ?_, ?_, ?_, ?_, ?_, ?_⟩
          · omega
          · rw [List.length_append, List.length_singleton, HDL.out]
          · exact Lib.hid (by rw [HKI.out, HD.out])
          · go_num
          · rfl
          · exact HR5.out
          · exact HB5.out
        all_goals (simp only [RowKit.intOf]; omega)
    · obtain rfl : i = N := by omega
      go_wp2_with fail
      go_ret
      exact ⟨_, rfl, by rw [← HKA.out, ← HD.out]; exact R_links HR.out, HBW.out⟩
end Go.Proofs.YtfbkkcigkpffiaaDoor.St

namespace Go.Proofs.YtfbkkcigkpffiaaDoor.St
open Go Go.Lib Go.RowKit Go.ChangeMaps Go.Proofs.YtfbkkcigkpffiaaDoorW.PrintWords Go.Proofs.YtfbkkcigkpffiaaDoorW.PrintLast Go.Proofs.YtfbkkcigkpffiaaDoorW.PrintMore Go.Proofs.YtfbkkcigkpffiaaDoor.PStoreMany
set_option linter.unusedVariables false
set_option linter.unusedSimpArgs false
set_option maxRecDepth 100000 in
set_option maxHeartbeats 8000000 in
theorem com_kids (v : ComV) (A : Option Addr) (c : Nat) (hv : v.id.length = 32) (hp32 : ∀ x ∈ v.ps, x.length = 32) (hn : v.ps.length ≤ 1000000000) (w : World) (hC : Kd.C kI w A v.ps.length v.ps) :
    Calls Tryd.prog 115 #[.agg (comC v.id (.slice A v.ps.length c) v.who v.tm v.tx).toArray] w fun e w' => ∃ l, e = .returned l ∧ LinksAt w' l (kids (.com v)) ∧ Below w.heap.size w w' := by
  obtain ⟨d, ps, who, tm, tx⟩ := v
  show Calls Tryd.prog 115 #[.agg (comC d (.slice A ps.length c) who tm tx).toArray] w fun e w' => ∃ l, e = .returned l ∧ LinksAt w' l (kids (.com ⟨d, ps, who, tm, tx⟩)) ∧ Below w.heap.size w w'
  have hn' : ps.length ≤ 1000000000 := hn
  have hdl : d.length = 32 := hv
  have HKD := Lib.hid (show ∀ i (h : i < ps.length), (kids (.com ⟨d, ps, who, tm, tx⟩)).take (i + 1 + 1) = (kids (.com ⟨d, ps, who, tm, tx⟩)).take (i + 1) ++ [⟨ps[i], 3⟩] from fun i h => by
    have hl : i + 1 < (kids (.com ⟨d, ps, who, tm, tx⟩)).length := by unfold kids; rw [List.length_cons, List.length_map]; show i + 1 < ps.length + 1; omega
    rw [List.take_succ_eq_append_getElem hl]
    congr 2
    simp only [kids, List.getElem_cons_succ, List.getElem_map])
  have HKA := Lib.hid (show (kids (.com ⟨d, ps, who, tm, tx⟩)).take (ps.length + 1) = kids (.com ⟨d, ps, who, tm, tx⟩) from List.take_of_length_le (by unfold kids; rw [List.length_cons, List.length_map]; exact Nat.le_refl _))
  have HK1 := Lib.hid (show (kids (.com ⟨d, ps, who, tm, tx⟩)).take 1 = [⟨d, 2⟩] from rfl)
  obtain ⟨ks, hks⟩ : ∃ ks, kids (.com ⟨d, ps, who, tm, tx⟩) = ks := ⟨_, rfl⟩
  rw [hks] at HKD HKA HK1 ⊢
  have HP32 := Lib.hid (show ∀ x ∈ ps, x.length = 32 from hp32)
  obtain ⟨w1, hw1⟩ : ∃ w1, w.alloc (.cells (comC d (.slice A ps.length c) who tm tx).toArray 116) = w1 := ⟨_, rfl⟩
  have HB1 := Lib.hid (show Below w.heap.size w w1 from hw1 ▸ below_alloc (Below.refl _ _) _)
  have HI := Lib.hid (show Blk w1 w.heap.size 116 (comC d (.slice A ps.length c) who tm tx) from hw1 ▸ Blk.new w 116 _)
  have HC2 := Lib.hid (show Kd.C kI w A ps.length ps from hC)
  obtain ⟨N, hN⟩ : ∃ N, ps.length = N := ⟨_, rfl⟩
  have HN := Lib.hid hN
  rw [hN] at hn' HKA hw1 HI ⊢
  have HW1 := Lib.hid hw1
  have c1 : w1.cell? ⟨w.heap.size, 32, none⟩ = some (.slice A N c) := comC_cell hdl HI.out 0
  have HCA := Lib.hid (show CellsAt w1 ⟨w.heap.size, 0, none⟩ (cl d) from fun j v hj => by
    rw [Addr.add_lit, Nat.zero_add, HI.out.cell]
    unfold comC
    rw [List.getElem?_append_left (List.getElem?_eq_some_iff.1 hj).1]
    exact hj)
  have HLD := Lib.hid (HCA.out.load 33 Tryd.isAgg33 (fun W => by rw [List.length_map, hdl]; exact Tryd.sizeOf33 W))
  have hfl := lnk_lit hdl 2
  obtain ⟨E, hE⟩ : ∃ E, lnkC ⟨d, 2⟩ = E := ⟨_, rfl⟩
  have HEL := Lib.hid (show E.length = 33 from hE ▸ lnkC_len hdl)
  have hel := HEL.out
  have HR1 := Lib.hid (R_one w1 ⟨d, 2⟩ hdl)
  have hfz := fun z => fill_size (cl d) 0 z
  rw [hE] at hfl HR1
  clear hw1 hv hE hn hp32 hC hks hN
  go_enter Tryd.func115, Tryd.ntmps115
  go_upto_region 1 with fail
  change Code.wp _ _ _ _ (w.alloc (.cells (comC d (.slice A N c) who tm tx).toArray 116))
  rw [HW1.out]
  go_upto_region 2 with (with_reducible refine wpList_ld rfl 33 (.tmp 6) rfl ⟨w.heap.size, 0, none⟩ rfl _ HLD.out ?_)
  try rw [fill_all _ _ (HEL.out.trans rfl)]
  obtain ⟨w2, hw2⟩ : ∃ w2, w1.alloc (.cells E.toArray 97) = w2 := ⟨_, rfl⟩
  have HB2 := Lib.hid (show Below w1.heap.size w1 w2 from hw2 ▸ below_alloc (Below.refl _ _) _)
  rw [hw2] at HR1 ⊢
  have HB02 := Lib.hid (HB1.out.trans (HB2.out.mono HB1.out.size))
  have c2 := pw_cell_below HB2.out c1
  have HR2 := Lib.hid (Kd.R_mono (Kd.R_lower HR1.out HB1.out.size) (fun k (hk : w1.heap.size ≤ k) => (Nat.le_trans HB1.out.size hk : w.heap.size ≤ k)))
  clear hfl hel hfz c1 hw2 HLD HCA HI HR1
  go_wp2_with fail
  go_loopw [3, 13] (fun v3 v13 wr => ∃ (i : Nat) (done : List Lnk) (A' : Option Addr) (c' : Nat), i ≤ N ∧ done.length = i + 1 ∧ Hid (done = ks.take (i + 1)) ∧ v13 = .int .i64 i ∧ v3 = .slice A' (i + 1) c' ∧ Kd.R kL 97 wr w.heap.size (fun q => w.heap.size ≤ q) (.slice A' (i + 1) c') done ∧ Below w.heap.size w wr) (fun _ v13 _ => N - (RowKit.intOf v13).toNat)
  case atStart => exact ⟨0, [⟨d, 2⟩], _, _, Nat.zero_le _, rfl, Lib.hid HK1.out.symm, rfl, rfl, HR2.out, HB02.out⟩
  case round =>
    obtain ⟨i, done, A', c', hi, hdn, HD, rfl, rfl, hR, hbw⟩ := hrel
    have HBW := Lib.hid hbw
    have HR := Lib.hid hR
    have HDL := Lib.hid hdn
    clear hbw hR hdn
    by_cases hlt : i < N
    · have hlt' : (i : Int) < (N : Int) := by omega
      have hi0 : (0 : Int) ≤ (i : Int) := by omega
      have hil : i < ps.length := by rw [HN.out]; exact hlt
      have HKI := Lib.hid (HKD.out i hil)
      obtain ⟨ad, rfl, hat⟩ := C_at HC2.out i hil
      have HXL := Lib.hid (HP32.out _ (List.getElem_mem hil))
      obtain ⟨x, hx⟩ : ∃ x, ps[i] = x := ⟨_, rfl⟩
      rw [hx] at hat HXL HKI
      have HLD := Lib.hid ((hat.below HBW.out).load 33 Tryd.isAgg33 (fun W => by rw [List.length_map, HXL.out]; exact Tryd.sizeOf33 W))
      obtain ⟨w3, hw3⟩ : ∃ w3, wr.alloc (.cells (noughts 32).toArray 33) = w3 := ⟨_, rfl⟩
      have HW3 := Lib.hid hw3
      have HI3 := Lib.hid (show Blk w3 wr.heap.size 33 (noughts 32) from hw3 ▸ Blk.new wr 33 _)
      have HB3 := Lib.hid (show Below wr.heap.size wr w3 from hw3 ▸ below_alloc (Below.refl _ _) _)
      have HTH := Lib.hid (HI3.out.there 0 (cl x).toArray.size (by rw [List.size_toArray, List.length_map, HXL.out]; simp))
      have HSZ := Lib.hid (size33' HXL.out)
      have HON := Lib.hid (one33 x)
      have HI4 := Lib.hid (setCell_zero33 w3 _ x HXL.out HI3.out)
      have HB4 := Lib.hid (show Below wr.heap.size wr (w3.setCells wr.heap.size 0 (cl x)) from (But.setCells (k := wr.heap.size) (cl x) 0 w3 (But.of_below HB3.out)).new (Nat.le_refl _))
      clear hw3 hx hat
      go_upto_region 5 with (first | (with_reducible refine wpList_ld rfl 33 (.tmp 15) rfl (ad.add (i * 32)) rfl _ HLD.out ?_) | ((change wpList _ _ _ _ _ (wr.alloc (.cells (noughts 32).toArray 33))); rw [HW3.out]; refine wpList_store_mid rfl 33 (.tmp 5) (.tmp 16) rfl wr.heap.size 0 (cl x).toArray rfl rfl HTH.out HSZ.out HON.out ?_))
      obtain ⟨w4, hw4⟩ : ∃ w4, w3.setCells wr.heap.size 0 (cl x) = w4 := ⟨_, rfl⟩
      rw [hw4] at HI4 HB4 ⊢
      clear hw4 HLD HTH HSZ HON HI3 HB3 HW3
      try simp only [Act.put]
      have HB14 := Lib.hid (HBW.out.trans (HB4.out.mono HBW.out.size))
      have HR4 := Lib.hid (Kd.R_below HR.out HB4.out)
      have HLI := Lib.hid (HI4.out.loads 33 Tryd.isAgg33 (fun W => by rw [List.length_map, HXL.out]; exact Tryd.sizeOf33 W))
      have hxl := HXL.out
      have hfl := lnk_lit HXL.out 3
      obtain ⟨E, hE⟩ : ∃ E, lnkC ⟨x, 3⟩ = E := ⟨_, rfl⟩
      have HEE := Lib.hid hE
      have HEL := Lib.hid (show E.length = 33 from hE ▸ lnkC_len HXL.out)
      have hel := HEL.out
      have hfz := fun z => fill_size (cl x) 0 z
      rw [hE] at hfl
      clear hE
      go_wp2_with (first | (with_reducible refine wpList_ld rfl 33 (.tmp 5) rfl ⟨wr.heap.size, 0, none⟩ rfl _ HLI.out ?_) | (at_builtin; rw [fill_all _ _ (HEL.out.trans rfl)]; refine Kd.R_append kL (W := w4) (w0 := w) w.heap.size rfl (.tmp 17) (.tmp 20) 63 97 _ 40 rfl Tryd.underlying63 info97 (by decide) (by decide) (by decide) (.slice A' (i + 1) c') done ⟨x, 3⟩ E (fun k => w.heap.size ≤ k) (fun _ => False) rfl (by simp [Act.eval]) ⟨HXL.out, HEE.out.symm⟩ (fun _ hk => hk.elim) (fun k hk => by have := HB14.out.size; omega) HR4.out HB14.out HB14.out.size (by rw [HDL.out]; omega) ?_; intro v5 w5 hr5 hb5 hg5 hat5; obtain ⟨A5, c5, hv5⟩ := Kd.R_slice hr5; rw [List.length_append, List.length_singleton, HDL.out] at hv5; subst hv5; have HR5 := Lib.hid hr5; have HB5 := Lib.hid hb5; clear hr5 hb5 hg5 hat5))
      clear hfl hel hfz hxl
      go_roundw
      case rel =>
        refine ⟨i + 1, done ++ [⟨x, 3⟩], A5, c5, ?_, ?_, ?_, ?_, ?_, ?_, ?_⟩
        · omega
        · rw [List.length_append, List.length_singleton, HDL.out]
        · exact Lib.hid (by rw [HKI.out, HD.out])
        · go_num
        · rfl
        · exact HR5.out
        · exact HB5.out
      all_goals (simp only [RowKit.intOf]; omega)
    · obtain rfl : i = N := by omega
      go_wp2_with fail
      go_ret
      exact ⟨_, rfl, by rw [← HKA.out, ← HD.out]; exact R_links HR.out, HBW.out⟩
end Go.Proofs.YtfbkkcigkpffiaaDoor.St
