/- The walk of order, by which a store sorts ids. -/
import Derived.Test.YtfbkkcigkpffiaaDoorSdP
import Derived.Lib.Bytealg
import Derived.Lib.BytesEntry
import Derived.BigQuiet
import Derived.Deep.QuietTactic
import Derived.Shelf.SlSortFuncK.SWK
namespace Go.Proofs.YtfbkkcigkpffiaaDoor.St
open Go Go.Lib Go.RowKit Go.ChangeMaps Go.Proofs.YtfbkkcigkpffiaaDoorW.PrintWords Go.Proofs.YtfbkkcigkpffiaaDoorW.PrintLast Go.Proofs.YtfbkkcigkpffiaaDoorW.PrintMore Go.Proofs.YtfbkkcigkpffiaaDoor.PStoreMany Go.Sort
set_option linter.unusedVariables false
set_option linter.unusedSimpArgs false
/-- Bytes at an address. -/
def ByAt (w : World) (a : Addr) (l : By) : Prop := ∀ j x, l[j]? = some x → w.cell? (a.add j) = some (b8 (x.toNat : Int))
theorem ByAt.below {w w' : World} {a : Addr} {l : By} (h : ByAt w a l) (hb : Below w.heap.size w w') : ByAt w' a l := fun j x hj => pw_cell_below hb (h j x hj)
theorem Blk.by {w : World} {k : Nat} {l : By} (h : Blk w k 33 (cl l)) : ByAt w ⟨k, 0, none⟩ l := fun j x hj => by
  rw [Addr.add_lit, Nat.zero_add, h.cell, List.getElem?_map, hj]
  rfl
def intsB (l : By) : List Int := l.map (fun b => (b.toNat : Int))
theorem ints_bytes (l : By) : Lib.bytesOf (intsB l) = l := by
  unfold Lib.bytesOf intsB
  rw [List.map_map]
  exact (List.map_congr_left (fun b _ => by simp)).trans (List.map_id _)
theorem bytesOf_at {w : World} {a : Addr} {l : By} (h : ByAt w a l) (c : Nat) : (Extern.Bytes.bytesOf (.slice (some a) l.length c)).run Tryd.prog w = .ok ⟨l.toArray⟩ w := by
  have hl := run_loadBytesX (P := Tryd.prog) w (intsB l) a .empty (fun j x hj => by
    unfold intsB at hj
    rw [List.getElem?_map] at hj
    cases hq : l[j]? with
    | none => simp [hq] at hj
    | some y => rw [hq] at hj; obtain rfl := (by simpa using hj : _ = x); exact h j y hq)
  rw [show (intsB l).length = l.length by simp [intsB], ints_bytes] at hl
  refine hl.trans ?_
  congr 1
  apply ByteArray.ext
  simp
theorem run_bcmp {w : World} {a b : Addr} {l m : By} (ha : ByAt w a l) (hb : ByAt w b m) (c d : Nat) :
    (callFunc 68 #[.slice (some a) l.length c, .slice (some b) m.length d]).run Tryd.prog w = .ok (.value (.int .i64 (compareBytes l m))) w := by
  rw [run_callFunc_extern Tryd.func68 (by kernel_rfl) (by kernel_rfl) (by kernel_rfl) (e := Extern.BytealgCompare.compare) (by kernel_rfl)]
  have : (Extern.BytealgCompare.compare #[.slice (some a) l.length c, .slice (some b) m.length d]).run Tryd.prog w = .ok (.int .i64 (compareBytes l m)) w := by
    change Sem.run Tryd.prog (do pure (goInt (Extern.BytealgCompare.cmp (← Extern.Bytes.bytesOf (.slice (some a) l.length c)) (← Extern.Bytes.bytesOf (.slice (some b) m.length d))))) w = _
    simp only [Sem.run_bind, bytesOf_at ha, bytesOf_at hb, Sem.run_pure, Result.andThen]
    rw [cmp_eq]
    rfl
  rw [this]
  rfl
set_option maxRecDepth 100000 in
set_option maxHeartbeats 4000000 in
theorem bcmp_walk (l m : By) (a b : Addr) (c d : Nat) (w : World) (ha : ByAt w a l) (hb : ByAt w b m) :
    Calls Tryd.prog 48 #[.slice (some a) l.length c, .slice (some b) m.length d] w fun e w' => e = .returned (.int .i64 (compareBytes l m)) ∧ w' = w := by
  have hr := run_bcmp ha hb c d
  clear ha hb
  obtain ⟨r, hr'⟩ : ∃ r, compareBytes l m = r := ⟨_, rfl⟩
  rw [hr'] at hr ⊢
  go_enter Tryd.func48, Tryd.ntmps48
  go_wp2_with fail
  go_ret
  exact ⟨rfl, rfl⟩
set_option maxRecDepth 100000 in
set_option maxHeartbeats 4000000 in
theorem order_walk (x y : By) (hx : x.length = 32) (hy : y.length = 32) (w : World) :
    Calls Tryd.prog 37 #[vId x, vId y] w fun e w' => e = .returned (.int .i64 (compareBytes x y)) ∧ ∃ q os, w' = grow (w.drewN q) os := by
  obtain ⟨w1, hw1⟩ : ∃ w1, w.alloc (Obj.cells (cl x).toArray 33) = w1 := ⟨_, rfl⟩
  obtain ⟨w2, hw2⟩ : ∃ w2, w1.alloc (Obj.cells (cl y).toArray 33) = w2 := ⟨_, rfl⟩
  have hX1 : Blk w1 w.heap.size 33 (cl x) := hw1 ▸ Blk.new w 33 (cl x)
  have hY2 : Blk w2 w1.heap.size 33 (cl y) := hw2 ▸ Blk.new w1 33 (cl y)
  have hb12 : Below w1.heap.size w1 w2 := hw2 ▸ below_alloc (Below.refl _ _) _
  have HG := Lib.hid (show ∀ q, ∃ q' os, w2.drewN q = grow (w.drewN q') os from fun q => ⟨q, _, by rw [← hw2, ← hw1, alloc_eq_grow, alloc_eq_grow, grow_grow]; rfl⟩)
  have hX2 := hX1.below hb12
  have HW1 := Lib.hid hw1
  have HW2 := Lib.hid hw2
  have HBC := Lib.hid (fun q : Nat => by
    have h := bcmp_walk x y ⟨w.heap.size, 0, none⟩ ⟨w1.heap.size, 0, none⟩ 32 32 (w2.drewN q) (hX2.by.below (pw_below_drewN (Below.refl _ _) q)) (hY2.by.below (pw_below_drewN (Below.refl _ _) q))
    rw [hx, hy, show w1.heap.size = w.heap.size + 1 from by rw [← hw1]; simp] at h
    exact h)
  clear hX1 hY2 hb12 hX2 hw1 hw2
  obtain ⟨r, hr⟩ : ∃ r, compareBytes x y = r := ⟨_, rfl⟩
  rw [hr] at HBC ⊢
  clear hr hx hy
  go_enter Tryd.func37, Tryd.ntmps37
  go_upto_region 1 with fail
  rw [HW1.out]
  rw [HW2.out]
  go_quiet (refine (HBC.out _).mono (fun e w' hh => ⟨hh.1, _, hh.2⟩))
  go_wp2_with fail
  go_ret
  exact ⟨rfl, HG.out _⟩
end Go.Proofs.YtfbkkcigkpffiaaDoor.St
