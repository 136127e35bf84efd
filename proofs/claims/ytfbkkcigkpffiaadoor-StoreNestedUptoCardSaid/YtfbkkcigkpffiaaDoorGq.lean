/- The walk of order, by which a store sorts ids. -/
import Derived.Test.YtfbkkcigkpffiaaDoorGd
import Derived.Lib.Bytealg
import Derived.Lib.BytesEntry
import Derived.BigQuiet
import Derived.Deep.QuietTactic
import Derived.Shelf.SlSortFuncK.SWK
import Derived.Shelf.SlSortCmp.KitK
namespace Go.Proofs.YtfbkkcigkpffiaaDoor.St
open Go Go.Lib Go.RowKit Go.ChangeMaps Go.Proofs.YtfbkkcigkpffiaaDoorW.PrintWords Go.Proofs.YtfbkkcigkpffiaaDoorW.PrintLast Go.Proofs.YtfbkkcigkpffiaaDoorW.PrintMore Go.Proofs.YtfbkkcigkpffiaaDoor.PStoreMany Go.Sort
set_option linter.unusedVariables false
set_option linter.unusedSimpArgs false
/-- Bytes at an address. -/
def ByAt (w : World) (a : Addr) (l : By) : Prop := ∀ j x, l[j]? = some x → w.cell? (a.add j) = some (b8 (x.toNat : Int))
theorem ByAt.below {w w' : World} {a : Addr} {l : By} (h : ByAt w a l) (hb : Below w.heap.size w w') : ByAt w' a l := fun j x hj => pw_cell_below hb (h j x hj)
theorem Blk.by {w : World} {k : Nat} {l : By} (h : Blk w k 33 (cl l)) : ByAt w ⟨k, 0, none⟩ l := fun j x hj => by
  rw [Addr.add_lit, Nat.zero_add, h.cell, List.getElem?_map, hj]
  rfl
def intsB (l : By) : List Int := l.map (fun b => (b.toNat : Int))
theorem ints_bytes (l : By) : Lib.bytesOf (intsB l) = l := by
  unfold Lib.bytesOf intsB
  rw [List.map_map]
  exact (List.map_congr_left (fun b _ => by simp)).trans (List.map_id _)
theorem bytesOf_at {w : World} {a : Addr} {l : By} (h : ByAt w a l) (c : Nat) : (Extern.Bytes.bytesOf (.slice (some a) l.length c)).run Tryd.prog w = .ok ⟨l.toArray⟩ w := by
  have hl := run_loadBytesX (P := Tryd.prog) w (intsB l) a .empty (fun j x hj => by
    unfold intsB at hj
    rw [List.getElem?_map] at hj
    cases hq : l[j]? with
    | none => simp [hq] at hj
    | some y => rw [hq] at hj; obtain rfl := (by simpa using hj : _ = x); exact h j y hq)
  rw [show (intsB l).length = l.length by simp [intsB], ints_bytes] at hl
  refine hl.trans ?_
  congr 1
  apply ByteArray.ext
  simp
theorem run_bcmp {w : World} {a b : Addr} {l m : By} (ha : ByAt w a l) (hb : ByAt w b m) (c d : Nat) :
    (callFunc 68 #[.slice (some a) l.length c, .slice (some b) m.length d]).run Tryd.prog w = .ok (.value (.int .i64 (compareBytes l m))) w := by
  rw [run_callFunc_extern Tryd.func68 (by kernel_rfl) (by kernel_rfl) (by kernel_rfl) (e := Extern.BytealgCompare.compare) (by kernel_rfl)]
  have : (Extern.BytealgCompare.compare #[.slice (some a) l.length c, .slice (some b) m.length d]).run Tryd.prog w = .ok (.int .i64 (compareBytes l m)) w := by
    change Sem.run Tryd.prog (do pure (goInt (Extern.BytealgCompare.cmp (← Extern.Bytes.bytesOf (.slice (some a) l.length c)) (← Extern.Bytes.bytesOf (.slice (some b) m.length d))))) w = _
    simp only [Sem.run_bind, bytesOf_at ha, bytesOf_at hb, Sem.run_pure, Result.andThen]
    rw [cmp_eq]
    rfl
  rw [this]
  rfl
set_option maxRecDepth 100000 in
set_option maxHeartbeats 4000000 in
theorem bcmp_walk (l m : By) (a b : Addr) (c d : Nat) (w : World) (ha : ByAt w a l) (hb : ByAt w b m) :
    Calls Tryd.prog 48 #[.slice (some a) l.length c, .slice (some b) m.length d] w fun e w' => e = .returned (.int .i64 (compareBytes l m)) ∧ w' = w := by
  have hr := run_bcmp ha hb c d
  clear ha hb
  obtain ⟨r, hr'⟩ : ∃ r, compareBytes l m = r := ⟨_, rfl⟩
  rw [hr'] at hr ⊢
  go_enter Tryd.func48, Tryd.ntmps48
  go_wp2_with fail
  go_ret
  exact ⟨rfl, rfl⟩
set_option maxRecDepth 100000 in
set_option maxHeartbeats 4000000 in
theorem order_walk (x y : By) (hx : x.length = 32) (hy : y.length = 32) (w : World) :
    Calls Tryd.prog 37 #[vId x, vId y] w fun e w' => e = .returned (.int .i64 (compareBytes x y)) ∧ ∃ q os, w' = grow (w.drewN q) os := by
  obtain ⟨w1, hw1⟩ : ∃ w1, w.alloc (Obj.cells (cl x).toArray 33) = w1 := ⟨_, rfl⟩
  obtain ⟨w2, hw2⟩ : ∃ w2, w1.alloc (Obj.cells (cl y).toArray 33) = w2 := ⟨_, rfl⟩
  have hX1 : Blk w1 w.heap.size 33 (cl x) := hw1 ▸ Blk.new w 33 (cl x)
  have hY2 : Blk w2 w1.heap.size 33 (cl y) := hw2 ▸ Blk.new w1 33 (cl y)
  have hb12 : Below w1.heap.size w1 w2 := hw2 ▸ below_alloc (Below.refl _ _) _
  have HG := Lib.hid (show ∀ q, ∃ q' os, w2.drewN q = grow (w.drewN q') os from fun q => ⟨q, _, by rw [← hw2, ← hw1, alloc_eq_grow, alloc_eq_grow, grow_grow]; rfl⟩)
  have hX2 := hX1.below hb12
  have HW1 := Lib.hid hw1
  have HW2 := Lib.hid hw2
  have HBC := Lib.hid (fun q : Nat => by
    have h := bcmp_walk x y ⟨w.heap.size, 0, none⟩ ⟨w1.heap.size, 0, none⟩ 32 32 (w2.drewN q) (hX2.by.below (pw_below_drewN (Below.refl _ _) q)) (hY2.by.below (pw_below_drewN (Below.refl _ _) q))
    rw [hx, hy, show w1.heap.size = w.heap.size + 1 from by rw [← hw1]; simp] at h
    exact h)
  clear hX1 hY2 hb12 hX2 hw1 hw2
  obtain ⟨r, hr⟩ : ∃ r, compareBytes x y = r := ⟨_, rfl⟩
  rw [hr] at HBC ⊢
  clear hr hx hy
  go_enter Tryd.func37, Tryd.ntmps37
  go_upto_region 1 with fail
  rw [HW1.out]
  rw [HW2.out]
  go_quiet (refine (HBC.out _).mono (fun e w' hh => ⟨hh.1, _, hh.2⟩))
  go_wp2_with fail
  go_ret
  exact ⟨rfl, HG.out _⟩
end Go.Proofs.YtfbkkcigkpffiaaDoor.St

namespace Go.Proofs.YtfbkkcigkpffiaaDoor.St
open Go Go.Lib Go.RowKit Go.ChangeMaps Go.Proofs.YtfbkkcigkpffiaaDoorW.PrintWords Go.Proofs.YtfbkkcigkpffiaaDoorW.PrintLast Go.Proofs.YtfbkkcigkpffiaaDoorW.PrintMore Go.Proofs.YtfbkkcigkpffiaaDoor.PStoreMany Go.Sort
set_option linter.unusedVariables false
set_option linter.unusedSimpArgs false
theorem by_lt_trans {a b c : By} (h1 : a < b) (h2 : b < c) : a < c := List.lt_trans h1 h2
theorem by_lt_irrefl (a : By) : ¬ a < a := List.lt_irrefl a
theorem by_tri (a b : By) : a < b ∨ a = b ∨ b < a := by
  by_cases h1 : a < b
  · exact .inl h1
  · by_cases h2 : b < a
    · exact .inr (.inr h2)
    · exact .inr (.inl (List.le_antisymm (List.not_lt.1 h2) (List.not_lt.1 h1)))
theorem cmpb_lt : ∀ (a b : By), compareBytes a b < 0 ↔ a < b
  | [], [] => by simp [compareBytes]
  | [], _ :: _ => by simp [compareBytes]
  | _ :: _, [] => by simp [compareBytes]
  | x :: a, y :: b => by
    unfold compareBytes
    rw [List.cons_lt_cons_iff]
    by_cases h1 : x < y
    · simp [h1]
    · rw [if_neg h1]
      by_cases h2 : y < x
      · have h3 : x ≠ y := fun e => by subst e; exact UInt8.lt_irrefl _ h2
        simp [h1, h2, h3]
      · have h3 : x = y := UInt8.le_antisymm (UInt8.not_lt.1 h2) (UInt8.not_lt.1 h1)
        rw [if_neg h2, cmpb_lt a b]
        simp [h3, UInt8.lt_irrefl]
def OId := { x : By // x.length = 32 }
instance : Inhabited OId := ⟨⟨zid, by decide⟩⟩
def encI (x : OId) : List Value := cl x.1
def cfI (x y : OId) : Int := compareBytes x.1 y.1
theorem ltI (x y : OId) : ltOf cfI x y = true ↔ x.1 < y.1 := by
  unfold ltOf cfI
  rw [decide_eq_true_eq, cmpb_lt]
theorem ltI_false (x y : OId) : ltOf cfI x y = false ↔ ¬ x.1 < y.1 := by
  rw [Bool.eq_false_iff, ne_eq, ltI]
theorem swoI : SWO (ltOf cfI) where
  irrefl x := by
    rw [ltI_false]
    exact by_lt_irrefl _
  trans x y z h1 h2 := by
    rw [ltI] at *
    exact by_lt_trans h1 h2
  ntrans x y z h1 h2 := by
    rw [ltI_false] at *
    intro h
    rcases by_tri x.1 y.1 with h3 | h3 | h3
    · exact h1 h3
    · exact h2 (h3 ▸ h)
    · exact h2 (by_lt_trans h3 h)
theorem encI_len (x : OId) : (encI x).length = 32 := by unfold encI; rw [List.length_map]; exact x.2
theorem encI_one (x : OId) : ∀ v ∈ encI x, v.oneCell' = true := fun v hv => by
  obtain ⟨b, _, rfl⟩ := List.mem_map.1 hv
  rfl
def mkO (x : By) (h : x.length = 32) : OId := ⟨x, h⟩
def oArr (L : List By) (h : ∀ x ∈ L, x.length = 32) : Array OId := (L.pmap mkO h).toArray
theorem oArr_size (L : List By) (h : ∀ x ∈ L, x.length = 32) : (oArr L h).size = L.length := by
  unfold oArr
  rw [List.size_toArray, List.length_pmap]
theorem oArr_map (L : List By) (h : ∀ x ∈ L, x.length = 32) : (oArr L h).toList.map (·.1) = L := by
  unfold oArr
  rw [List.toList_toArray]
  refine List.ext_getElem (by rw [List.length_map, List.length_pmap]) (fun i h1 h2 => ?_)
  rw [List.getElem_map, List.getElem_pmap]
  rfl
theorem oArr_get (L : List By) (h : ∀ x ∈ L, x.length = 32) (i : Nat) (hi : i < L.length) : (oArr L h)[i]! = mkO L[i] (h _ (List.getElem_mem hi)) := by
  rw [getElem!_pos _ _ (by rw [oArr_size]; exact hi)]
  unfold oArr
  rw [List.getElem_toArray, List.getElem_pmap]
theorem holdsK_of_row {w : World} {g : Nat} {L : List By} (hok : ∀ x ∈ L, x.length = 32) (h : RowI w g L) : HoldsK encI 32 w g 0 (oArr L hok) := by
  intro j hj
  rw [size_flatK, oArr_size] at hj
  rw [get_flatK _ _ _ _ (by rw [oArr_size]; exact hj)]
  have hq : j / 32 < L.length := by omega
  rw [oArr_get L hok _ hq]
  have hl : j % 32 < (encI (mkO L[j / 32] (hok _ (List.getElem_mem hq)))).length := by rw [encI_len]; omega
  rw [getElem!_pos (encI (mkO L[j / 32] (hok _ (List.getElem_mem hq)))) (j % 32) hl]
  have := h (j / 32) hq (j % 32) (encI (mkO L[j / 32] (hok _ (List.getElem_mem hq))))[j % 32] (List.getElem?_eq_getElem hl)
  rw [show j / 32 * 32 + j % 32 = j by omega] at this
  rw [Nat.zero_add]
  exact this
theorem row_of_holdsK {w : World} {g : Nat} (d : Array OId) (h : HoldsK encI 32 w g 0 d) : RowI w g (d.toList.map (·.1)) := by
  intro i hi j v hj
  have hi' : i < d.size := by simpa using hi
  have hjl := (List.getElem?_eq_some_iff.1 hj).1
  rw [List.getElem_map, Array.getElem_toList] at hj hjl
  have hj34 : j < 32 := by
    rw [List.length_map] at hjl
    have := (d[i]).2
    omega
  obtain ⟨h1, h2⟩ := h.cell (i := i) (c := j) hi' hj34
  rw [Nat.zero_add] at h1 h2
  refine ⟨?_, h2⟩
  rw [h1, getElem!_pos d i hi', getElem!_pos (encI d[i]) j (by rw [encI_len]; exact hj34)]
  rw [List.getElem?_eq_getElem hjl] at hj
  exact hj
theorem below_sortWorld (w : World) (g n B : Nat) (d : Array OId) (os : Array Obj) (hB : B ≤ g) (hs : B ≤ w.heap.size) : Below B w (sortWorldK encI 32 w g 0 n d os) := by
  refine ⟨rfl, rfl, rfl, ?_, fun k hk => ?_⟩
  · simp only [sortWorldK, size_grow, size_putRowK]
    show w.heap.size ≤ w.heap.size + _
    omega
  · have hk' : k < w.heap.size := by omega
    simp only [sortWorldK, grow, putRowK, putRow, mapBlock, ahead]
    rw [Array.getElem?_append_left (by simpa [Sort.ahead] using hk'), Array.getElem?_modify, if_neg (by omega)]
    rfl
theorem cmpLaysI (g size : Nat) (w : World) : CmpLays Tryd.prog 37 #[] encI 32 cfI g 0 size w := fun m os dk _ x y => by
  have h := order_walk x.1 y.1 x.2 y.2 (sortWorldK encI 32 w g 0 m dk os)
  exact h
/-- Sorted: no later one is less. -/
def Sorted (D : List By) : Prop := D.Pairwise (fun a b => ¬ b < a)
end Go.Proofs.YtfbkkcigkpffiaaDoor.St
