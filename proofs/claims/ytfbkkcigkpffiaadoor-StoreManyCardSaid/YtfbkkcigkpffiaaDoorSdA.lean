/- A digest's state in memory: a hash's block, a table of words; what a call leaves but one block. No walk. -/
import Derived.Test.YtfbkkcigkpffiaaDoorPStoreManyx0
import Derived.Lib.Hide
namespace Go.Proofs.YtfbkkcigkpffiaaDoor.St
open Go Go.Lib Go.RowKit Go.ChangeMaps Go.Proofs.YtfbkkcigkpffiaaDoorW.PrintWords Go.Proofs.YtfbkkcigkpffiaaDoorW.PrintLast Go.Proofs.YtfbkkcigkpffiaaDoorW.PrintMore
set_option linter.unusedVariables false
set_option linter.unusedSimpArgs false
/-- n rounds. -/
def run {S : Type} (f : Nat → S → S) : Nat → S → S
  | 0, s => s
  | n + 1, s => f n (run f n s)
theorem run_succ {S : Type} (f : Nat → S → S) (n : Nat) (s : S) : run f (n + 1) s = f n (run f n s) := rfl
theorem run_keep {S : Type} (P : S → Prop) (f : Nat → S → S) (h : ∀ i s, P s → P (f i s)) : ∀ n s, P s → P (run f n s)
  | 0, _, h0 => h0
  | n + 1, s, h0 => h n _ (run_keep P f h n s h0)
/-- All but block k is as it was. -/
structure But (k : Nat) (w w' : World) : Prop where
  os : w'.os = w.os
  tape : w'.tape = w.tape
  output : w'.output = w.output
  size : w.heap.size ≤ w'.heap.size
  block : ∀ j, j < w.heap.size → j ≠ k → w'.heap[j]? = w.heap[j]?
theorem But.refl (k : Nat) (w : World) : But k w w := ⟨rfl, rfl, rfl, Nat.le_refl _, fun _ _ _ => rfl⟩
theorem But.trans {k : Nat} {a b c : World} (h : But k a b) (g : But k b c) : But k a c :=
  ⟨g.os.trans h.os, g.tape.trans h.tape, g.output.trans h.output, Nat.le_trans h.size g.size, fun j hj hk => (g.block j (Nat.lt_of_lt_of_le hj h.size) hk).trans (h.block j hj hk)⟩
theorem But.of_below {k : Nat} {a b : World} (h : Below a.heap.size a b) : But k a b := ⟨h.os, h.tape, h.output, h.size, fun j hj _ => h.block j hj⟩
theorem But.set {k : Nat} {a b : World} (h : But k a b) (o : Nat) (v : Value) : But k a (b.setCell ⟨k, o, none⟩ v) :=
  ⟨h.os, h.tape, h.output, by simpa [World.setCell] using h.size, fun j hj hk => (Below.heap_setCell b ⟨k, o, none⟩ v j hk).trans (h.block j hj hk)⟩
theorem But.new {k : Nat} {a b : World} (h : But k a b) (hk : a.heap.size ≤ k) : Below a.heap.size a b := ⟨h.os, h.tape, h.output, h.size, fun j hj => h.block j hj (by omega)⟩
/-- A block's cells. -/
def Blk (w : World) (k t : Nat) (cs : List Value) : Prop := w.heap[k]? = some (.cells cs.toArray t (0, 0))
theorem Blk.lt {w : World} {k t : Nat} {cs : List Value} (h : Blk w k t cs) : k < w.heap.size := (Array.getElem?_eq_some_iff.1 h).1
theorem Blk.cell {w : World} {k t : Nat} {cs : List Value} (h : Blk w k t cs) (i : Nat) : w.cell? ⟨k, i, none⟩ = cs[i]? := by
  rw [blk_cell h i]; simp
theorem Blk.frozen {w : World} {k t : Nat} {cs : List Value} (h : Blk w k t cs) (i : Nat) : w.frozen? ⟨k, i, none⟩ = false := blk_frozen h i
theorem Blk.below {w w' : World} {k t : Nat} {cs : List Value} (h : Blk w k t cs) (hb : Below w.heap.size w w') : Blk w' k t cs := (hb.block k h.lt).trans h
theorem Blk.but {w w' : World} {k t j : Nat} {cs : List Value} (h : Blk w j t cs) (hb : But k w w') (hj : j ≠ k) : Blk w' j t cs := (hb.block j h.lt hj).trans h
theorem Blk.set {w : World} {k t : Nat} {cs : List Value} (h : Blk w k t cs) (i : Nat) (v : Value) : Blk (w.setCell ⟨k, i, none⟩ v) k t (cs.set i v) := by
  have h2 := blk_set h i v
  unfold Blk
  rw [h2]
  simp
theorem Blk.new (w : World) (t : Nat) (cs : List Value) : Blk (w.alloc (.cells cs.toArray t)) w.heap.size t cs := (MapKept.heap_alloc w _).1
/-- Words of 32 bits. -/
abbrev u (x : Int) : Value := .int .u32 x
abbrev us (l : List Int) : List Value := l.map u
abbrev b8 (x : Int) : Value := .int .u8 x
theorem us_set (l : List Int) (i : Nat) (x : Int) : (us l).set i (u x) = us (l.set i x) := by simp [us, List.map_set]
theorem us_get (l : List Int) (i : Nat) : (us l)[i]? = (l[i]?).map u := by simp [us]
/-- A hash: its words, its tail, how much of that is filled, how many bytes in all. -/
structure Hs where
  ws : List Int
  tl : List Int
  hv : Nat
  al : Nat
def Hs.cells (s : Hs) : List Value := us s.ws ++ (s.tl.map b8 ++ [.int .i64 s.hv, .int .u64 s.al])
structure Hs.Ok (s : Hs) : Prop where
  ws : s.ws.length = 8
  tl : s.tl.length = 64
def HashAt (w : World) (k : Nat) (s : Hs) : Prop := Blk w k 112 s.cells ∧ s.Ok
theorem HashAt.word {w : World} {k : Nat} {s : Hs} (h : HashAt w k s) (i : Nat) (hi : i < 8) : w.cell? ⟨k, i, none⟩ = some (u (s.ws.getD i 0)) := by
  rw [h.1.cell]
  unfold Hs.cells
  rw [List.getElem?_append_left (by simp [h.2.ws]; exact hi), us_get, List.getD_eq_getElem?_getD, List.getElem?_eq_getElem (by rw [h.2.ws]; exact hi)]
  rfl
theorem HashAt.tail {w : World} {k : Nat} {s : Hs} (h : HashAt w k s) (i : Nat) (hi : i < 64) : w.cell? ⟨k, 8 + i, none⟩ = some (b8 (s.tl.getD i 0)) := by
  rw [h.1.cell]
  unfold Hs.cells
  rw [List.getElem?_append_right (by simp [h.2.ws]), show 8 + i - (us s.ws).length = i by simp [h.2.ws], List.getElem?_append_left (by simp [h.2.tl]; exact hi), List.getD_eq_getElem?_getD, List.getElem?_map, List.getElem?_eq_getElem (by rw [h.2.tl]; exact hi)]
  rfl
theorem HashAt.have_ {w : World} {k : Nat} {s : Hs} (h : HashAt w k s) : w.cell? ⟨k, 72, none⟩ = some (.int .i64 s.hv) := by
  rw [h.1.cell]
  unfold Hs.cells
  rw [List.getElem?_append_right (by simp [h.2.ws]), List.getElem?_append_right (by simp [h.2.ws, h.2.tl])]
  simp [h.2.ws, h.2.tl]
theorem HashAt.all {w : World} {k : Nat} {s : Hs} (h : HashAt w k s) : w.cell? ⟨k, 73, none⟩ = some (.int .u64 s.al) := by
  rw [h.1.cell]
  unfold Hs.cells
  rw [List.getElem?_append_right (by simp [h.2.ws]), List.getElem?_append_right (by simp [h.2.ws, h.2.tl])]
  simp [h.2.ws, h.2.tl]
theorem HashAt.setWord {w : World} {k : Nat} {s : Hs} (h : HashAt w k s) (i : Nat) (hi : i < 8) (x : Int) : HashAt (w.setCell ⟨k, i, none⟩ (u x)) k { s with ws := s.ws.set i x } := by
  refine ⟨?_, by simp [h.2.ws], h.2.tl⟩
  have := h.1.set i (u x)
  have e : s.cells.set i (u x) = Hs.cells { s with ws := s.ws.set i x } := by
    unfold Hs.cells
    rw [List.set_append_left _ _ (by simp [h.2.ws]; exact hi), us_set]
  rwa [e] at this
theorem HashAt.setHave {w : World} {k : Nat} {s : Hs} (h : HashAt w k s) (x : Nat) : HashAt (w.setCell ⟨k, 72, none⟩ (.int .i64 x)) k { s with hv := x } := by
  refine ⟨?_, h.2.ws, h.2.tl⟩
  have := h.1.set 72 (.int .i64 x)
  have e : s.cells.set 72 (.int .i64 x) = Hs.cells { s with hv := x } := by
    unfold Hs.cells
    rw [List.set_append_right _ _ (by simp [h.2.ws]), List.set_append_right _ _ (by simp [h.2.ws, h.2.tl])]
    simp [h.2.ws, h.2.tl]
  rwa [e] at this
theorem HashAt.setAll {w : World} {k : Nat} {s : Hs} (h : HashAt w k s) (x : Nat) : HashAt (w.setCell ⟨k, 73, none⟩ (.int .u64 x)) k { s with al := x } := by
  refine ⟨?_, h.2.ws, h.2.tl⟩
  have := h.1.set 73 (.int .u64 x)
  have e : s.cells.set 73 (.int .u64 x) = Hs.cells { s with al := x } := by
    unfold Hs.cells
    rw [List.set_append_right _ _ (by simp [h.2.ws]), List.set_append_right _ _ (by simp [h.2.ws, h.2.tl])]
    simp [h.2.ws, h.2.tl]
  rwa [e] at this
end Go.Proofs.YtfbkkcigkpffiaaDoor.St
