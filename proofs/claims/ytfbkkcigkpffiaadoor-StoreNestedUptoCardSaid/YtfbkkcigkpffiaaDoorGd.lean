/- The walk of lives: a store of one. -/
import Derived.Test.YtfbkkcigkpffiaaDoorGc
import Derived.Test.YtfbkkcigkpffiaaDoorPStoreManyx6
import Derived.Maps.RangeRun
import Derived.Maps.RangeWalk
import Derived.Deep.LoopGhost
namespace Go.Proofs.YtfbkkcigkpffiaaDoor.St
open Go Go.Lib Go.RowKit Go.ChangeMaps Go.Proofs.YtfbkkcigkpffiaaDoorW.PrintWords Go.Proofs.YtfbkkcigkpffiaaDoorW.PrintLast Go.Proofs.YtfbkkcigkpffiaaDoorW.PrintMore Go.Proofs.YtfbkkcigkpffiaaDoor.PStoreMany
set_option linter.unusedVariables false
set_option linter.unusedSimpArgs false
theorem lit_C (w : World) (l : List Int) (hl : l.length ≤ 9223372036854775807) : Kd.C kB (w.alloc (.cells (l.map b8).toArray 5)) (some ⟨w.heap.size, 0, none⟩) l.length l :=
  ⟨rfl, hl, fun _ => ⟨_, rfl, fun j p hp => ⟨[b8 p], rfl, rfl, fun i u hu => by
    have hi : i = 0 := by
      have := (List.getElem?_eq_some_iff.1 hu).1
      simpa using this
    subst hi
    cases hu
    have h := (Blk.new w 5 (l.map b8)).cell j
    rw [List.getElem?_map, hp] at h
    rw [Addr.add_mid, show 0 + (j * kB.sz + 0) = j by show 0 + (j * 1 + 0) = j; omega]
    exact h⟩⟩⟩
theorem put_first {d di : By} {b : List Int} {nw : Bool} {er : Nat} {its : Its} (h : PutRes d [] b di nw er its) : its = [(d, b)] ∧ nw = true ∧ er = 0 ∧ di = d := by
  unfold PutRes at h
  simpa [iget, iput] using h
theorem eq_120 : satchelref0_Eq.f 10 [1, 120] [1, 120] = some true := by first | kernel_rfl | rfl | (simp [satchelref0_Eq.f, satchelref0_Cmp.f, satchelref0_Cmp.l0]; done)
theorem num_walk (a : Int) (w : World) : Calls Tryd.prog 16 #[.int .i64 a] w fun e w' => e = .returned (.int .i64 a) ∧ Drawn0 w w' := by
  go_enter Tryd.func16, Tryd.ntmps16
  go_wp2
  go_ret
  exact ⟨by first | rfl | (simp; done) | (simp [*]; done), by repeat (first | exact Drawn0.refl _ | apply Drawn0.step)⟩
set_option maxRecDepth 100000 in
set_option maxHeartbeats 4000000 in
theorem lives_walk (bg : List Int) (rk : Nat → Int) (w : World) (hT : Tabs bg rk w) (he : w.cell? ⟨3, 0, none⟩ = some (.int .i64 0)) :
    Calls Tryd.prog 10 #[] w fun e w' => e = .returned (.bool true) ∧ Below w.heap.size w w' := by
  have HT := Lib.hid hT
  have HE := Lib.hid he
  have HN := Lib.hid (snew_walk w)
  clear hT he
  go_enter Tryd.func10, Tryd.ntmps10
  go_wp2_with fail
  refine HN.out.mono ?_
  rintro e w1 ⟨ks, km, rfl, hks, hkm, hs, hb⟩
  have HKM := Lib.hid hkm
  have HS := Lib.hid hs
  have HB := Lib.hid hb
  clear hks hkm hs hb HN
  go_wp2_with fail
  have HBL := Lib.hid (show Below w1.heap.size w1 (w1.alloc (Obj.cells #[Value.int IntKind.u8 1, Value.int IntKind.u8 120] 5)) from below_alloc (Below.refl _ _) _)
  have HCL := Lib.hid (lit_C w1 [1, 120] (by decide))
  have HBW := Lib.hid (HB.out.trans (HBL.out.mono HB.out.size))
  have HPU := Lib.hid (put_walk bg rk ks km [] [120] _ 2 _ (HT.out.below HBW.out) (pw_cell_below HBW.out HE.out) (HS.out.below HBL.out) HCL.out (by decide) (by decide) (by unfold Byte; decide) (by simp))
  refine HPU.out.mono ?_
  rintro e w2 ⟨di, nw, er, its, rfl, hres, hs2, hbut, _⟩
  have HDL := Lib.hid (dig_len bg rk [1, 120])
  obtain ⟨d, hd⟩ : ∃ d, dig bg rk [1, 120] = d := ⟨_, rfl⟩
  rw [hd] at HDL hres
  obtain ⟨rfl, rfl, rfl, h4⟩ := put_first hres
  have h4 := h4.symm
  subst h4
  have HS2 := Lib.hid (show StoreAt w2 ks km [(d, [1, 120])] from hs2)
  have HB2 := Lib.hid (((But.of_below HBW.out).trans hbut).new HKM.out)
  clear hres hs2 hbut hd HPU HBL HCL HBW HS HB
  obtain ⟨w3, hw3⟩ : ∃ w3, w2.alloc (.cells (noughts 32).toArray 33) = w3 := ⟨_, rfl⟩
  have HW3 := Lib.hid hw3
  have HI3 := Lib.hid (show Blk w3 w2.heap.size 33 (noughts 32) from hw3 ▸ Blk.new w2 33 (noughts 32))
  have HB3 := Lib.hid (show Below w2.heap.size w2 w3 from hw3 ▸ below_alloc (Below.refl _ _) _)
  have HTH := Lib.hid (HI3.out.there 0 (cl d).toArray.size (by rw [List.size_toArray, List.length_map, HDL.out]; simp))
  have HSZ := Lib.hid (size33' HDL.out)
  have HON := Lib.hid (one33 d)
  have HI4 := Lib.hid (ret_id d HDL.out HI3.out HB3.out (Nat.le_refl _))
  clear hw3
  go_upto_region 5 with (first | ((change wpList _ _ _ _ _ (w2.alloc (.cells (noughts 32).toArray 33))); rw [HW3.out]; refine wpList_store_mid rfl 33 (.tmp 2) (.tmp 14) rfl w2.heap.size 0 (cl d).toArray rfl rfl HTH.out HSZ.out HON.out ?_))
  obtain ⟨w4, hw4⟩ : ∃ w4, w3.setCells w2.heap.size 0 (cl d) = w4 := ⟨_, rfl⟩
  rw [hw4] at HI4 ⊢
  have HLD := Lib.hid (HI4.out.1.loads 33 Tryd.isAgg33 (fun W => by rw [List.length_map, HDL.out]; exact Tryd.sizeOf33 W))
  have HB4 := Lib.hid (HB2.out.trans (HI4.out.2.mono HB2.out.size))
  have HS4 := Lib.hid (HS2.out.below HI4.out.2)
  have HG := Lib.hid (get_walk ks km _ d HDL.out w4 HS4.out (fun b hb => by simp [iget] at hb; subst hb; decide))
  clear hw4 HI4 HTH HSZ HON HI3 HB3 HW3 HS2 HB2
  go_wp2_with (with_reducible refine wpList_ld rfl 33 (.tmp 2) rfl ⟨w2.heap.size, 0, none⟩ rfl _ HLD.out ?_)
  refine HG.out.mono ?_
  rintro e w5 ⟨hb5, ⟨h0, _⟩ | ⟨b, v, h0, rfl, hv⟩⟩
  · simp [iget] at h0
  have hbe : [1, 120] = b := by simpa [iget] using h0
  subst hbe
  have HB5 := Lib.hid (HB4.out.trans (hb5.mono HB4.out.size))
  have HS5 := Lib.hid (HS4.out.below hb5)
  have HV := Lib.hid hv
  clear h0 hb5 hv HG HLD HS4 HB4
  obtain ⟨A, c, hve, hc, hC⟩ := HV.out
  have HC := Lib.hid hC
  have HLC := Lib.hid hc
  subst hve
  clear hC hc HV
  simp only [List.length_cons, List.length_nil, Nat.zero_add, Nat.reduceAdd]
  go_wp2_with fail
  refine (num_walk 0 w5).mono ?_
  rintro e w6 ⟨rfl, hd6⟩
  have HB56 := Lib.hid hd6.below
  go_wp2_with fail
  refine (num_walk 0 w6).mono ?_
  rintro e w7 ⟨rfl, hd7⟩
  have HB57 := Lib.hid (HB56.out.trans (hd7.below.mono HB56.out.size))
  clear hd6 hd7
  go_wp2_with fail
  have HBL := Lib.hid (show Below w7.heap.size w7 (w7.alloc (Obj.cells #[Value.int IntKind.u8 1, Value.int IntKind.u8 120] 5)) from below_alloc (Below.refl _ _) _)
  have HB58 := Lib.hid (HB57.out.trans (HBL.out.mono HB57.out.size))
  have HCL := Lib.hid (lit_C w7 [1, 120] (by decide))
  have HEQ := Lib.hid (satchelref0_Eq.calls 10 A c [1, 120] _ 2 [1, 120] true _ (Kd.C_below HC.out HB58.out) HLC.out HCL.out (by decide) eq_120)
  refine HEQ.out.mono ?_
  rintro e w8 ⟨rfl, hd8⟩
  have HB8 := Lib.hid (HB58.out.trans (hd8.below.mono HB58.out.size))
  have HLE := Lib.hid (len_walk ks km _ w8 (HS5.out.below HB8.out))
  clear hd8 HEQ HCL HBL
  go_wp2_with fail
  refine HLE.out.mono ?_
  rintro e w9 ⟨rfl, rfl⟩
  go_wp2_with fail
  go_ret
  exact ⟨rfl, HB5.out.trans (HB8.out.mono HB5.out.size)⟩
end Go.Proofs.YtfbkkcigkpffiaaDoor.St

namespace Go.Proofs.YtfbkkcigkpffiaaDoor.St
open Go Go.Lib Go.RowKit Go.ChangeMaps Go.Proofs.YtfbkkcigkpffiaaDoorW.PrintWords Go.Proofs.YtfbkkcigkpffiaaDoorW.PrintLast Go.Proofs.YtfbkkcigkpffiaaDoorW.PrintMore Go.Proofs.YtfbkkcigkpffiaaDoor.PStoreMany
set_option linter.unusedVariables false
set_option linter.unusedSimpArgs false
theorem b8_inj : ∀ {a b : By}, cl a = cl b → a = b
  | [], [], _ => rfl
  | [], _ :: _, h => by simp [cl] at h
  | _ :: _, [], h => by simp [cl] at h
  | x :: a, y :: b, h => by
    simp only [cl, List.map_cons, List.cons.injEq] at h
    obtain ⟨h1, h2⟩ := h
    have h3 : (x.toNat : Int) = (y.toNat : Int) := (Value.int.inj h1).2
    have h4 : x = y := UInt8.toNat_inj.1 (by omega)
    rw [h4, b8_inj (show cl a = cl b from h2)]
theorem vId_inj {a b : By} (h : vId a = vId b) : a = b := b8_inj (by
  have h1 := Value.agg.inj h
  simpa using h1)
/-- The range at block r over the map at block b: what is left. -/
def Rng (w : World) (b r : Nat) (left : KV) : Prop :=
  ∃ es clock since seen c0, w.heap[b]? = some (.map es clock) ∧ w.heap[r]? = some (.mapIter (some b) since seen c0) ∧ (∀ e ∈ es.toList, e.born < since) ∧ since ≤ c0 ∧ c0 ≤ clock ∧ (es.toList.map (·.born)).Nodup ∧
    (leftOf es seen).toList.map F = left.map G
/-- .. and an entry that has just come. -/
def Cur (w : World) (b r : Nat) (x : By × Value) : Prop :=
  ∃ (es : Array MapEntry) (clock since : Nat) (seen : Array Nat) (e : MapEntry), w.heap[b]? = some (.map es clock) ∧ w.heap[r]? = some (.mapIter (some b) since (seen.push e.born) clock) ∧ e ∈ es.toList ∧ (es.toList.map (·.born)).Nodup ∧ F e = G x
theorem Cur.move {w w' : World} {b r : Nat} {x : By × Value} (h : Cur w b r x) (hb : w'.heap[b]? = w.heap[b]?) (hr : w'.heap[r]? = w.heap[r]?) : Cur w' b r x := by
  obtain ⟨es, clock, since, seen, e, h1, h2, h3⟩ := h
  exact ⟨es, clock, since, seen, e, hb.trans h1, hr.trans h2, h3⟩
theorem Rng.move {w w' : World} {b r : Nat} {l : KV} (h : Rng w b r l) (hb : w'.heap[b]? = w.heap[b]?) (hr : w'.heap[r]? = w.heap[r]?) : Rng w' b r l := by
  obtain ⟨es, clock, since, seen, c0, h1, h2, h3⟩ := h
  exact ⟨es, clock, since, seen, c0, hb.trans h1, hr.trans h2, h3⟩
section
variable {P : Program} {w : World} {b r : Nat} {T K E : TypeId}
/-- The range begins. -/
theorem run_range (kv : KV) (h : IMap w b kv) (hT : P.underlying T = some (.map K E)) : ∃ o, (Instr.range T (.map (some b))).run P w = .ok (.pointer (some ⟨w.heap.size, 0, none⟩)) (w.alloc o) ∧ Rng (w.alloc o) b w.heap.size kv := by
  obtain ⟨es, clock, hb, hm, hborn, hnd, _⟩ := h
  have hlt := (Array.getElem?_eq_some_iff.1 hb).1
  refine ⟨.mapIter (some b) clock #[] clock, run_range_map w T K E b es clock hT hb, es, clock, clock, #[], clock, ?_, heap_alloc_new w _, hborn, Nat.le_refl _, Nat.le_refl _, hnd, ?_⟩
  · rw [heap_alloc_old w _ hlt]; exact hb
  · have : leftOf es #[] = es := by unfold leftOf; exact Array.filter_eq_self.2 (by simp)
    rw [this, hm]
theorem left_push (es : Array MapEntry) (seen : Array Nat) (e : MapEntry) : (leftOf es (seen.push e.born)).toList = (leftOf es seen).toList.filter (fun x => x.born != e.born) := by
  unfold leftOf
  rw [Array.toList_filter, Array.toList_filter, List.filter_filter]
  refine List.filter_congr fun x hx => ?_
  rw [Bool.eq_iff_iff]
  simp
  constructor
  · rintro ⟨h1, h2⟩; exact ⟨h2, h1⟩
  · rintro ⟨h1, h2⟩; exact ⟨h2, h1⟩
theorem filter_perm : ∀ (l : List MapEntry) (e : MapEntry), e ∈ l → (l.map (·.born)).Nodup → l.Perm (e :: l.filter (fun x => x.born != e.born))
  | [], e, h, _ => by simp at h
  | a :: l, e, h, hn => by
    rw [List.map_cons, List.nodup_cons] at hn
    by_cases ha : a.born = e.born
    · have hae : a = e := by
        rcases List.mem_cons.1 h with h | h
        · exact h.symm
        · exact absurd (ha ▸ List.mem_map_of_mem (f := (·.born)) h) hn.1
      subst hae
      have hf : l.filter (fun x => x.born != a.born) = l := List.filter_eq_self.2 fun x hx => by
        simp
        intro q
        exact hn.1 (q ▸ List.mem_map_of_mem (f := (·.born)) hx)
      rw [List.filter_cons, hf]
      simp
    · have hl : e ∈ l := by
        rcases List.mem_cons.1 h with h | h
        · exact absurd (by rw [h]) ha
        · exact h
      have ih := filter_perm l e hl hn.2
      rw [List.filter_cons, if_pos (by simpa using ha)]
      exact (ih.cons a).trans (List.Perm.swap e a _)
theorem map_FG {l : List MapEntry} {kv : KV} (h : l.map F = kv.map G) {e : MapEntry} (he : e ∈ l) : ∃ x ∈ kv, F e = G x := by
  have : F e ∈ kv.map G := h ▸ List.mem_map_of_mem he
  obtain ⟨x, hx, q⟩ := List.mem_map.1 this
  exact ⟨x, hx, q.symm⟩
theorem G_inj {x y : By × Value} (h : G x = G y) : x = y := by
  have h1 : vId x.1 = vId y.1 := show (G x).1 = (G y).1 by rw [h]
  have h2 : x.2 = y.2 := show (G x).2 = (G y).2 by rw [h]
  exact Prod.ext (vId_inj h1) h2
theorem set_same {w : World} {r : Nat} {o : Obj} (h : r < w.heap.size) : (setBlock w r o).heap[r]? = some o := by simp [setBlock, h]
theorem set_other {w : World} {r k : Nat} {o : Obj} (h : k ≠ r) : (setBlock w r o).heap[k]? = w.heap[k]? := by
  unfold setBlock
  exact Array.getElem?_setIfInBounds_ne (Ne.symm h)
theorem perm_FG : ∀ {l m : List MapEntry}, l.Perm m → ∀ kv : KV, l.map F = kv.map G → ∃ kv', m.map F = kv'.map G ∧ kv.Perm kv' := fun {l m} hp => by
  induction hp with
  | nil => intro kv h; exact ⟨kv, h, List.Perm.refl _⟩
  | cons x _ ih =>
    intro kv h
    cases kv with
    | nil => simp at h
    | cons y kv =>
      rw [List.map_cons, List.map_cons] at h
      injection h with h1 h2
      obtain ⟨kv', e, p⟩ := ih kv h2
      exact ⟨y :: kv', by rw [List.map_cons, List.map_cons, h1, e], p.cons y⟩
  | swap x y l =>
    intro kv h
    match kv, h with
    | [], h => simp at h
    | [a], h => simp at h
    | a :: c :: kv, h =>
      simp only [List.map_cons, List.cons.injEq] at h
      exact ⟨c :: a :: kv, by simp only [List.map_cons, h.1, h.2.1, h.2.2], List.Perm.swap c a kv⟩
  | trans _ _ ih1 ih2 =>
    intro kv h
    obtain ⟨kv1, e1, p1⟩ := ih1 kv h
    obtain ⟨kv2, e2, p2⟩ := ih2 kv1 e1
    exact ⟨kv2, e2, p1.trans p2⟩
/-- A step: nothing is left, or some entry that is left comes. -/
theorem run_next (left : KV) (h : Rng w b r left) (hbr : b ≠ r) (ty : TypeId) :
    (left = [] ∧ (Instr.next (.pointer (some ⟨r, 0, none⟩)) false ty).run P w = .ok (.tuple #[.bool false]) w) ∨
    ∃ x left' w1 o, left.Perm (x :: left') ∧ (w1 = w ∨ w1 = w.drew) ∧ (Instr.next (.pointer (some ⟨r, 0, none⟩)) false ty).run P w = .ok (.tuple #[.bool true, vId x.1, x.2]) (setBlock w1 r o) ∧ Rng (setBlock w1 r o) b r left' ∧ Cur (setBlock w1 r o) b r x := by
  obtain ⟨es, clock, since, seen, c0, h1, h2, h3, h4, h5, h6, h7⟩ := h
  rcases run_next_at (P := P) w ty r b since c0 seen es clock h2 h1 h3 h4 with ⟨g1, g2⟩ | ⟨e, he, w1, hw1, hrun⟩
  · left
    have : (leftOf es seen).toList = [] := by rw [← List.length_eq_zero_iff]; simpa using g1
    rw [this] at h7
    exact ⟨by cases left with | nil => rfl | cons _ _ => simp at h7, g2⟩
  · right
    have hsub : ((leftOf es seen).toList.map (·.born)).Nodup := by
      unfold leftOf
      rw [Array.toList_filter]
      exact h6.sublist (List.filter_sublist.map _)
    obtain ⟨kv', e1, p1⟩ := perm_FG (filter_perm _ e he hsub) left h7
    cases kv' with
    | nil => simp at e1
    | cons x left' =>
      rw [List.map_cons, List.map_cons] at e1
      injection e1 with ex el
      have hmem : e ∈ es.toList := by unfold leftOf at he; simp at he; simpa using he.1
      have hr1 : w1.heap[r]? = some (.mapIter (some b) since seen c0) := by rcases hw1 with rfl | rfl <;> exact h2
      have hb1 : w1.heap[b]? = some (.map es clock) := by rcases hw1 with rfl | rfl <;> exact h1
      have hlt := (Array.getElem?_eq_some_iff.1 hr1).1
      have hs1 : (setBlock w1 r (.mapIter (some b) since (seen.push e.born) clock)).heap[r]? = some (.mapIter (some b) since (seen.push e.born) clock) := set_same hlt
      have hs2 : (setBlock w1 r (.mapIter (some b) since (seen.push e.born) clock)).heap[b]? = some (.map es clock) := (set_other hbr).trans hb1
      have hk : e.key = vId x.1 := show (F e).1 = (G x).1 by rw [ex]
      have hv : e.val = x.2 := show (F e).2 = (G x).2 by rw [ex]
      refine ⟨x, left', w1, _, p1, hw1, by rw [← hk, ← hv]; exact hrun, ⟨es, clock, since, _, clock, hs2, hs1, h3, by omega, Nat.le_refl _, h6, ?_⟩, ⟨es, clock, since, seen, e, hs2, hs1, hmem, h6, ex⟩⟩
      rw [left_push]; exact el
/-- The entry that has come, read. -/
theorem run_entry (x : By × Value) (h : Cur w b r x) : (Instr.entry (.pointer (some ⟨r, 0, none⟩))).run P w = .ok (.tuple #[vId x.1, x.2]) w := by
  obtain ⟨es, clock, since, seen, e, h1, h2, h3, h4, h5⟩ := h
  have hk : e.key = vId x.1 := show (F e).1 = (G x).1 by rw [h5]
  have hv : e.val = x.2 := show (F e).2 = (G x).2 by rw [h5]
  rw [← hk, ← hv]
  exact run_entry_at w r b since seen es clock e h2 h1 h3 h4
end
/-- An id, by its 32 cells alone. -/
def kI : Kd By where
  sz := 32
  E := []
  K := fun _ x cs => x.length = 32 ∧ cs = cl x
  M := fun _ _ _ x cs => x.length = 32 ∧ cs = cl x
  K_len := fun h => by rw [h.2, List.length_map]; exact h.1
  K_one := fun h u hu => by
    rw [h.2] at hu
    obtain ⟨b, _, rfl⟩ := List.mem_map.1 hu
    rfl
  K_below := fun _ h => h
  K_of_M := fun h => h
  M_mono := fun _ h => h
  M_bound := fun h => h
  M_move := fun _ h => h
  M_lower := fun _ h => h
theorem info33 : (Tryd.prog.info? 33).map (fun i => (i.zero, i.size, i.bytes)) = some (some (.agg (noughts 32).toArray), kI.sz, 32) := by kernel_rfl
/-- A row of ids in a block of its own. -/
def RowI (w : World) (g : Nat) (L : List By) : Prop := ∀ i (hi : i < L.length) j v, (cl L[i])[j]? = some v → w.cell? ⟨g, i * 32 + j, none⟩ = some v ∧ w.frozen? ⟨g, i * 32 + j, none⟩ = false
theorem RowI.below {w w' : World} {g : Nat} {L : List By} (h : RowI w g L) (hg : g < w.heap.size) (hb : Below w.heap.size w w') : RowI w' g L := fun i hi j v hj => by
  obtain ⟨h1, h2⟩ := h i hi j v hj
  exact ⟨pw_cell_below hb h1, (hb.frozen (p := ⟨g, i * 32 + j, none⟩) hg).trans h2⟩
theorem RowI.but {w w' : World} {g k : Nat} {L : List By} (h : RowI w g L) (hg : g < w.heap.size) (hb : But k w w') (hk : g ≠ k) : RowI w' g L := fun i hi j v hj => by
  obtain ⟨h1, h2⟩ := h i hi j v hj
  refine ⟨cell_but hb h1 hk, ?_⟩
  have e := hb.block g hg hk
  unfold World.frozen? at h2 ⊢
  rw [e]
  exact h2
theorem RowI.range {w : World} {g : Nat} {L : List By} (h : RowI w g L) (i : Nat) (hi : i < L.length) : w.rangeAt g (i * 32) (cl L[i]) := fun j v hj => (h i hi j v hj).1
theorem RowI.C {w : World} {g : Nat} {L : List By} (h : RowI w g L) (hok : ∀ x ∈ L, x.length = 32) (hl : L.length ≤ 9223372036854775807) : Kd.C kI w (some ⟨g, 0, none⟩) L.length L :=
  ⟨rfl, hl, fun hp => ⟨_, rfl, fun j x hj => by
    obtain ⟨hjl, rfl⟩ := List.getElem?_eq_some_iff.1 hj
    refine ⟨cl L[j], by rw [List.length_map]; exact hok _ (List.getElem_mem hjl), ⟨hok _ (List.getElem_mem hjl), rfl⟩, fun i u hu => ?_⟩
    have h1 := (h j hjl i u hu).1
    rw [Addr.add_lit, Nat.zero_add]
    exact h1⟩⟩
theorem R_lens {w : World} {e B : Nat} {ok : Nat → Prop} {v : Value} {L : List By} (h : Kd.R kI e w B ok v L) : ∀ x ∈ L, x.length = 32 := by
  obtain ⟨A, c, rfl⟩ := Kd.R_slice h
  obtain ⟨_, _, hC⟩ := Kd.R_reads' h
  intro x hx
  obtain ⟨i, hi, rfl⟩ := List.mem_iff_getElem.1 hx
  obtain ⟨ad, _, hc⟩ := hC.2.2 (by omega)
  obtain ⟨c, _, hk, _⟩ := hc i _ (List.getElem?_eq_getElem hi)
  exact hk.1
/-- A row of one's own with a block. -/
theorem R_rowI {w : World} {B b : Nat} {ok : Nat → Prop} {v : Value} {L : List By} (h : Kd.R kI 33 w B ok v L) (hb : v.ownBlock = some b) :
    ∃ g cap, v = .slice (some ⟨g, 0, none⟩) L.length cap ∧ B ≤ g ∧ g < w.heap.size ∧ L.length ≤ cap ∧ RowI w g L := by
  obtain ⟨inner, ho⟩ := Kd.R_own h
  rcases ho.2 with ⟨rfl, _⟩ | ⟨g, cap, cur, rfl, hg, hh, hc, _⟩
  · simp [Value.ownBlock] at hb
  · obtain ⟨_, _, hC⟩ := Kd.R_reads' h
    refine ⟨g, cap, rfl, hg, blk_lt hh, hc, fun i hi j u hj => ⟨?_, blk_frozen hh _⟩⟩
    obtain ⟨ad, he, hcell⟩ := hC.2.2 (by omega)
    obtain ⟨c, _, hk, hcl⟩ := hcell i _ (List.getElem?_eq_getElem hi)
    have := hcl j u (by rw [hk.2]; exact hj)
    obtain rfl : (⟨g, 0, none⟩ : Addr) = ad := Option.some.inj he
    rwa [Addr.add_lit, Nat.zero_add] at this
theorem R_made0 (w : World) (n : Nat) : Kd.R kI 33 (w.alloc (.cells #[] 33)) w.heap.size (fun k => w.heap.size ≤ k) (.slice (some ⟨w.heap.size, 0, none⟩) 0 0) [] := by
  refine ⟨fun k hk => ?_, [], ?_, ⟨by simp, fun j p h => by simp at h⟩⟩
  · have : w.heap.size = k := by simpa [Value.ownBlock] using hk
    omega
  · have h2 := World.ownsRow_lit (base := w.heap.size) (e := 33) (size := 32) w #[] 0 (Nat.le_refl _) (by decide) (by simp)
    exact h2
end Go.Proofs.YtfbkkcigkpffiaaDoor.St
