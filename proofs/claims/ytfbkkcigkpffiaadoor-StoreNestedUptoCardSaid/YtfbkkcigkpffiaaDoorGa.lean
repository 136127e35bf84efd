/- A digest's state in memory: a hash's block, a table of words; what a call leaves but one block. No walk. -/
import Derived.Test.YtfbkkcigkpffiaaDoorPStoreManyx0
import Derived.Lib.Hide
import Derived.Test.YtfbkkcigkpffiaaDoorPStoreManyx1
import Derived.StillTailTactics
import Derived.IntWalk
import Derived.Laws.CopyOwn
namespace Go.Proofs.YtfbkkcigkpffiaaDoor.St
open Go Go.Lib Go.RowKit Go.ChangeMaps Go.Proofs.YtfbkkcigkpffiaaDoorW.PrintWords Go.Proofs.YtfbkkcigkpffiaaDoorW.PrintLast Go.Proofs.YtfbkkcigkpffiaaDoorW.PrintMore
set_option linter.unusedVariables false
set_option linter.unusedSimpArgs false
/-- n rounds. -/
def run {S : Type} (f : Nat → S → S) : Nat → S → S
  | 0, s => s
  | n + 1, s => f n (run f n s)
theorem run_succ {S : Type} (f : Nat → S → S) (n : Nat) (s : S) : run f (n + 1) s = f n (run f n s) := rfl
theorem run_keep {S : Type} (P : S → Prop) (f : Nat → S → S) (h : ∀ i s, P s → P (f i s)) : ∀ n s, P s → P (run f n s)
  | 0, _, h0 => h0
  | n + 1, s, h0 => h n _ (run_keep P f h n s h0)
/-- All but block k is as it was. -/
structure But (k : Nat) (w w' : World) : Prop where
  os : w'.os = w.os
  tape : w'.tape = w.tape
  output : w'.output = w.output
  size : w.heap.size ≤ w'.heap.size
  block : ∀ j, j < w.heap.size → j ≠ k → w'.heap[j]? = w.heap[j]?
theorem But.refl (k : Nat) (w : World) : But k w w := ⟨rfl, rfl, rfl, Nat.le_refl _, fun _ _ _ => rfl⟩
theorem But.trans {k : Nat} {a b c : World} (h : But k a b) (g : But k b c) : But k a c :=
  ⟨g.os.trans h.os, g.tape.trans h.tape, g.output.trans h.output, Nat.le_trans h.size g.size, fun j hj hk => (g.block j (Nat.lt_of_lt_of_le hj h.size) hk).trans (h.block j hj hk)⟩
theorem But.of_below {k : Nat} {a b : World} (h : Below a.heap.size a b) : But k a b := ⟨h.os, h.tape, h.output, h.size, fun j hj _ => h.block j hj⟩
theorem But.set {k : Nat} {a b : World} (h : But k a b) (o : Nat) (v : Value) : But k a (b.setCell ⟨k, o, none⟩ v) :=
  ⟨h.os, h.tape, h.output, by simpa [World.setCell] using h.size, fun j hj hk => (Below.heap_setCell b ⟨k, o, none⟩ v j hk).trans (h.block j hj hk)⟩
theorem But.new {k : Nat} {a b : World} (h : But k a b) (hk : a.heap.size ≤ k) : Below a.heap.size a b := ⟨h.os, h.tape, h.output, h.size, fun j hj => h.block j hj (by omega)⟩
/-- A block's cells. -/
def Blk (w : World) (k t : Nat) (cs : List Value) : Prop := w.heap[k]? = some (.cells cs.toArray t (0, 0))
theorem Blk.lt {w : World} {k t : Nat} {cs : List Value} (h : Blk w k t cs) : k < w.heap.size := (Array.getElem?_eq_some_iff.1 h).1
theorem Blk.cell {w : World} {k t : Nat} {cs : List Value} (h : Blk w k t cs) (i : Nat) : w.cell? ⟨k, i, none⟩ = cs[i]? := by
  rw [blk_cell h i]; simp
theorem Blk.frozen {w : World} {k t : Nat} {cs : List Value} (h : Blk w k t cs) (i : Nat) : w.frozen? ⟨k, i, none⟩ = false := blk_frozen h i
theorem Blk.below {w w' : World} {k t : Nat} {cs : List Value} (h : Blk w k t cs) (hb : Below w.heap.size w w') : Blk w' k t cs := (hb.block k h.lt).trans h
theorem Blk.but {w w' : World} {k t j : Nat} {cs : List Value} (h : Blk w j t cs) (hb : But k w w') (hj : j ≠ k) : Blk w' j t cs := (hb.block j h.lt hj).trans h
theorem Blk.set {w : World} {k t : Nat} {cs : List Value} (h : Blk w k t cs) (i : Nat) (v : Value) : Blk (w.setCell ⟨k, i, none⟩ v) k t (cs.set i v) := by
  have h2 := blk_set h i v
  unfold Blk
  rw [h2]
  simp
theorem Blk.new (w : World) (t : Nat) (cs : List Value) : Blk (w.alloc (.cells cs.toArray t)) w.heap.size t cs := (MapKept.heap_alloc w _).1
/-- Words of 32 bits. -/
abbrev u (x : Int) : Value := .int .u32 x
abbrev us (l : List Int) : List Value := l.map u
abbrev b8 (x : Int) : Value := .int .u8 x
theorem us_set (l : List Int) (i : Nat) (x : Int) : (us l).set i (u x) = us (l.set i x) := by simp [us, List.map_set]
theorem us_get (l : List Int) (i : Nat) : (us l)[i]? = (l[i]?).map u := by simp [us]
/-- A hash: its words, its tail, how much of that is filled, how many bytes in all. -/
structure Hs where
  ws : List Int
  tl : List Int
  hv : Nat
  al : Nat
def Hs.cells (s : Hs) : List Value := us s.ws ++ (s.tl.map b8 ++ [.int .i64 s.hv, .int .u64 s.al])
structure Hs.Ok (s : Hs) : Prop where
  ws : s.ws.length = 8
  tl : s.tl.length = 64
def HashAt (w : World) (k : Nat) (s : Hs) : Prop := Blk w k 112 s.cells ∧ s.Ok
theorem HashAt.word {w : World} {k : Nat} {s : Hs} (h : HashAt w k s) (i : Nat) (hi : i < 8) : w.cell? ⟨k, i, none⟩ = some (u (s.ws.getD i 0)) := by
  rw [h.1.cell]
  unfold Hs.cells
  rw [List.getElem?_append_left (by simp [h.2.ws]; exact hi), us_get, List.getD_eq_getElem?_getD, List.getElem?_eq_getElem (by rw [h.2.ws]; exact hi)]
  rfl
theorem HashAt.tail {w : World} {k : Nat} {s : Hs} (h : HashAt w k s) (i : Nat) (hi : i < 64) : w.cell? ⟨k, 8 + i, none⟩ = some (b8 (s.tl.getD i 0)) := by
  rw [h.1.cell]
  unfold Hs.cells
  rw [List.getElem?_append_right (by simp [h.2.ws]), show 8 + i - (us s.ws).length = i by simp [h.2.ws], List.getElem?_append_left (by simp [h.2.tl]; exact hi), List.getD_eq_getElem?_getD, List.getElem?_map, List.getElem?_eq_getElem (by rw [h.2.tl]; exact hi)]
  rfl
theorem HashAt.have_ {w : World} {k : Nat} {s : Hs} (h : HashAt w k s) : w.cell? ⟨k, 72, none⟩ = some (.int .i64 s.hv) := by
  rw [h.1.cell]
  unfold Hs.cells
  rw [List.getElem?_append_right (by simp [h.2.ws]), List.getElem?_append_right (by simp [h.2.ws, h.2.tl])]
  simp [h.2.ws, h.2.tl]
theorem HashAt.all {w : World} {k : Nat} {s : Hs} (h : HashAt w k s) : w.cell? ⟨k, 73, none⟩ = some (.int .u64 s.al) := by
  rw [h.1.cell]
  unfold Hs.cells
  rw [List.getElem?_append_right (by simp [h.2.ws]), List.getElem?_append_right (by simp [h.2.ws, h.2.tl])]
  simp [h.2.ws, h.2.tl]
theorem HashAt.setWord {w : World} {k : Nat} {s : Hs} (h : HashAt w k s) (i : Nat) (hi : i < 8) (x : Int) : HashAt (w.setCell ⟨k, i, none⟩ (u x)) k { s with ws := s.ws.set i x } := by
  refine ⟨?_, by simp [h.2.ws], h.2.tl⟩
  have := h.1.set i (u x)
  have e : s.cells.set i (u x) = Hs.cells { s with ws := s.ws.set i x } := by
    unfold Hs.cells
    rw [List.set_append_left _ _ (by simp [h.2.ws]; exact hi), us_set]
  rwa [e] at this
theorem HashAt.setHave {w : World} {k : Nat} {s : Hs} (h : HashAt w k s) (x : Nat) : HashAt (w.setCell ⟨k, 72, none⟩ (.int .i64 x)) k { s with hv := x } := by
  refine ⟨?_, h.2.ws, h.2.tl⟩
  have := h.1.set 72 (.int .i64 x)
  have e : s.cells.set 72 (.int .i64 x) = Hs.cells { s with hv := x } := by
    unfold Hs.cells
    rw [List.set_append_right _ _ (by simp [h.2.ws]), List.set_append_right _ _ (by simp [h.2.ws, h.2.tl])]
    simp [h.2.ws, h.2.tl]
  rwa [e] at this
theorem HashAt.setAll {w : World} {k : Nat} {s : Hs} (h : HashAt w k s) (x : Nat) : HashAt (w.setCell ⟨k, 73, none⟩ (.int .u64 x)) k { s with al := x } := by
  refine ⟨?_, h.2.ws, h.2.tl⟩
  have := h.1.set 73 (.int .u64 x)
  have e : s.cells.set 73 (.int .u64 x) = Hs.cells { s with al := x } := by
    unfold Hs.cells
    rw [List.set_append_right _ _ (by simp [h.2.ws]), List.set_append_right _ _ (by simp [h.2.ws, h.2.tl])]
    simp [h.2.ws, h.2.tl]
  rwa [e] at this
end Go.Proofs.YtfbkkcigkpffiaaDoor.St

namespace Go.Proofs.YtfbkkcigkpffiaaDoor.St
open Go Go.Lib Go.RowKit Go.ChangeMaps Go.Proofs.YtfbkkcigkpffiaaDoorW.PrintWords Go.Proofs.YtfbkkcigkpffiaaDoorW.PrintLast Go.Proofs.YtfbkkcigkpffiaaDoorW.PrintMore Go.Proofs.YtfbkkcigkpffiaaDoor.PStoreMany
set_option linter.unusedVariables false
set_option linter.unusedSimpArgs false
/-! ### a region that draws its order: one walk, over all worlds in which nothing that was there has changed -/
def Cls (w : World) : Type := { w' : World // Below w.heap.size w w' }
def Cls.at {w : World} (i : Cls w) : World := i.1
theorem Cls.below {w : World} (i : Cls w) : Below w.heap.size w i.at := i.2
theorem Cls.cell {w : World} (i : Cls w) {p : Addr} {v : Value} (h : w.cell? p = some v) : i.at.cell? p = some v := pw_cell_below i.below h
def Cls.mk' {w w' : World} (h : Below w.heap.size w w') : Cls w := ⟨w', h⟩
instance clsNonempty (w : World) : Nonempty (Cls w) := ⟨Cls.mk' (Below.refl _ _)⟩
theorem wp_region_cls {P : Program} {id : Nat} {Q : Exit → Act → World → Prop} {a : Act} {w : World} {l : List Oper} (hm : P.follows .mixedOrders = true) (hB : Region.lexB .any l.toArray = true)
    (h : wpQuiet P l.toArray (fun w' => ∃ i : Cls w, w' = i.at) (fun a' => ∀ w', (∃ i : Cls w, w' = i.at) → Q .normal a' w') l a) : (Code.region id l.toArray true).wp P Q a w :=
  wp_region_quiet (C := fun w' => ∃ i : Cls w, w' = i.at) hm hB ⟨Cls.mk' (pw_below_drewN (Below.refl _ _) 1), rfl⟩ (by simpa using h)
theorem cls_call {P : Program} {f : FuncId} {args : Array Value} {w : World} {i : Cls w} {v : Value} (h : Calls P f args i.at fun e w' => e = .returned v ∧ Below i.at.heap.size i.at w') :
    Calls P f args i.at fun e w'' => e = .returned v ∧ ∃ j : Cls w, w'' = j.at :=
  h.mono fun _ _ ⟨he, hb⟩ => ⟨he, Cls.mk' (i.below.trans (hb.mono i.below.size)), rfl⟩
/-! ### words -/
def turnv (x n : Int) : Int := Go.bits .or .u32 (shr .u32 x n) (shl .u32 x (32 - n))
theorem turn_walk (x n : Int) (h0 : 0 ≤ n) (h1 : n ≤ 32) (w : World) : Calls Tryd.prog 78 #[u x, .int .i64 n] w fun e w' => e = .returned (u (turnv x n)) ∧ Drawn0 w w' := by
  have h : digest_turn.f x n = some (turnv x n) := by
    unfold digest_turn.f
    have e : wrap64 (32 - n) = 32 - n := by unfold wrap64; omega
    rw [e, if_pos h0, if_pos (by omega)]
    rfl
  exact digest_turn.calls x n (turnv x n) w h
theorem turn_below (x n : Int) (h0 : 0 ≤ n) (h1 : n ≤ 32) (w : World) : Calls Tryd.prog 78 #[u x, .int .i64 n] w fun e w' => e = .returned (u (turnv x n)) ∧ Below w.heap.size w w' :=
  (turn_walk x n h0 h1 w).mono fun e w' ⟨h1, h2⟩ => ⟨h1, h2.below⟩
def word4 (x0 x1 x2 x3 : Int) : Int :=
  Go.bits .or .u32 (Go.bits .or .u32 (Go.bits .or .u32 (IntKind.u32.wrap (IntKind.u32.wrap x0 * 16777216)) (IntKind.u32.wrap (IntKind.u32.wrap x1 * 65536))) (IntKind.u32.wrap (IntKind.u32.wrap x2 * 256))) (IntKind.u32.wrap x3)
theorem word4_def (x0 x1 x2 x3 : Int) : word4 x0 x1 x2 x3 = Go.bits .or .u32 (Go.bits .or .u32 (Go.bits .or .u32 (IntKind.u32.wrap (IntKind.u32.wrap x0 * 16777216)) (IntKind.u32.wrap (IntKind.u32.wrap x1 * 65536))) (IntKind.u32.wrap (IntKind.u32.wrap x2 * 256))) (IntKind.u32.wrap x3) := rfl
/-- The first sixteen words of the table. -/
def tab1 (tl : List Int) (i : Nat) (L : List Int) : List Int := L.set i (word4 (tl.getD (4 * i) 0) (tl.getD (4 * i + 1) 0) (tl.getD (4 * i + 2) 0) (tl.getD (4 * i + 3) 0))
theorem run_len {f : Nat → List Int → List Int} {n : Nat} (h : ∀ i L, (f i L).length = L.length) (m : Nat) (L : List Int) (hl : L.length = n) : (run f m L).length = n :=
  run_keep (fun L => L.length = n) f (fun i s hs => (h i s).trans hs) m L hl
theorem tab1_len (tl : List Int) (i : Nat) (L : List Int) : (tab1 tl i L).length = L.length := by simp [tab1]
theorem Blk.word {w : World} {k t : Nat} {L : List Int} (h : Blk w k t (us L)) (i : Nat) (hi : i < L.length) : w.cell? ⟨k, i, none⟩ = some (u (L.getD i 0)) := by
  rw [h.cell, us_get, List.getD_eq_getElem?_getD, List.getElem?_eq_getElem hi]
  rfl
abbrev zeros64 : List Int := List.replicate 64 0
def s0v (x : Int) : Int := Go.bits .xor .u32 (Go.bits .xor .u32 (turnv x 7) (turnv x 18)) (x / 8)
def s1v (y : Int) : Int := Go.bits .xor .u32 (Go.bits .xor .u32 (turnv y 17) (turnv y 19)) (y / 1024)
theorem s0v_def (x : Int) : s0v x = Go.bits .xor .u32 (Go.bits .xor .u32 (turnv x 7) (turnv x 18)) (x / 8) := rfl
theorem s1v_def (y : Int) : s1v y = Go.bits .xor .u32 (Go.bits .xor .u32 (turnv y 17) (turnv y 19)) (y / 1024) := rfl
def nextw (S0 S1 a b : Int) : Int := IntKind.u32.wrap (IntKind.u32.wrap (IntKind.u32.wrap (S1 + a) + S0) + b)
theorem nextw_def (S0 S1 a b : Int) : nextw S0 S1 a b = IntKind.u32.wrap (IntKind.u32.wrap (IntKind.u32.wrap (S1 + a) + S0) + b) := rfl
/-- The other words of the table. -/
def tab2 (d : Nat) (L : List Int) : List Int := L.set (d + 16) (nextw (s0v (L.getD (d + 1) 0)) (s1v (L.getD (d + 14) 0)) (L.getD (d + 9) 0) (L.getD d 0))
theorem tab2_len (i : Nat) (L : List Int) : (tab2 i L).length = L.length := by simp [tab2]
/-- n rounds lead from s to t (n kept from being reckoned). -/
def IsRun {S : Type} (f : Nat → S → S) (n : Nat) (s t : S) : Prop := ∃ m, m = n ∧ run f m s = t
theorem IsRun.eq {S : Type} {f : Nat → S → S} {n : Nat} {s t : S} (h : IsRun f n s t) : run f n s = t := by
  obtain ⟨m, rfl, h⟩ := h
  exact h
theorem list8 {α : Type} {l : List α} (h : l.length = 8) : ∃ a0 a1 a2 a3 a4 a5 a6 a7, l = [a0, a1, a2, a3, a4, a5, a6, a7] := by
  match l, h with
  | [a0, a1, a2, a3, a4, a5, a6, a7], _ => exact ⟨a0, a1, a2, a3, a4, a5, a6, a7, rfl⟩
def pv (v4 v5 v6 v7 R W : Int) : Int :=
  ((v7 + Go.bits BinOp.xor IntKind.u32 (Go.bits BinOp.xor IntKind.u32 (turnv v4 6) (turnv v4 11)) (turnv v4 25) +
                      Go.bits BinOp.xor IntKind.u32 (Go.bits BinOp.and IntKind.u32 v4 v5)
                        (Go.bits BinOp.and IntKind.u32
                          (Go.bits BinOp.xor IntKind.u32 (if IntKind.u32.signed = true then -1 else IntKind.u32.max) v4)
                          v6) +
                    R) %
                  4294967296 +
                W) %
              4294967296
theorem pv_def (v4 v5 v6 v7 R W : Int) : pv v4 v5 v6 v7 R W =
  ((v7 + Go.bits BinOp.xor IntKind.u32 (Go.bits BinOp.xor IntKind.u32 (turnv v4 6) (turnv v4 11)) (turnv v4 25) +
                      Go.bits BinOp.xor IntKind.u32 (Go.bits BinOp.and IntKind.u32 v4 v5)
                        (Go.bits BinOp.and IntKind.u32
                          (Go.bits BinOp.xor IntKind.u32 (if IntKind.u32.signed = true then -1 else IntKind.u32.max) v4)
                          v6) +
                    R) %
                  4294967296 +
                W) %
              4294967296 := rfl
def qv (v0 v1 v2 : Int) : Int :=
  (Go.bits BinOp.xor IntKind.u32 (Go.bits BinOp.xor IntKind.u32 (turnv v0 2) (turnv v0 13)) (turnv v0 22) +
                Go.bits BinOp.xor IntKind.u32
                  (Go.bits BinOp.xor IntKind.u32 (Go.bits BinOp.and IntKind.u32 v0 v1) (Go.bits BinOp.and IntKind.u32 v0 v2))
                  (Go.bits BinOp.and IntKind.u32 v1 v2)) %
              4294967296
theorem qv_def (v0 v1 v2 : Int) : qv v0 v1 v2 =
  (Go.bits BinOp.xor IntKind.u32 (Go.bits BinOp.xor IntKind.u32 (turnv v0 2) (turnv v0 13)) (turnv v0 22) +
                Go.bits BinOp.xor IntKind.u32
                  (Go.bits BinOp.xor IntKind.u32 (Go.bits BinOp.and IntKind.u32 v0 v1) (Go.bits BinOp.and IntKind.u32 v0 v2))
                  (Go.bits BinOp.and IntKind.u32 v1 v2)) %
              4294967296 := rfl
/-- One round. -/
def rnd (rk : Nat → Int) (T : List Int) (t : Nat) (V : List Int) : List Int :=
  match V with
  | [v0, v1, v2, v3, v4, v5, v6, v7] => [(pv v4 v5 v6 v7 (rk t) (T.getD t 0) + qv v0 v1 v2) % 4294967296, v0, v1, v2, (v3 + pv v4 v5 v6 v7 (rk t) (T.getD t 0)) % 4294967296, v4, v5, v6]
  | _ => V
theorem rnd_len (rk : Nat → Int) (T : List Int) (t : Nat) (V : List Int) : (rnd rk T t V).length = V.length := by
  unfold rnd
  split <;> rfl
def addw (V : List Int) (i : Nat) (U : List Int) : List Int := U.set i ((U.getD i 0 + V.getD i 0) % 4294967296)
/-- What mix makes of the words, at a block. -/
def mixf (rk : Nat → Int) (ws tl : List Int) : List Int := run (addw (run (rnd rk (run tab2 48 (run (tab1 tl) 16 zeros64))) 64 ws)) 8 ws
theorem But.below_of {k B : Nat} {a b : World} (h : But k a b) (hB : B ≤ k) (hs : B ≤ a.heap.size) : Below B a b := ⟨h.os, h.tape, h.output, h.size, fun j hj => h.block j (by omega) (by omega)⟩
set_option maxRecDepth 100000 in
set_option maxHeartbeats 4000000 in
theorem mix_walk (rk : Nat → Int) (k : Nat) (s : Hs) (w : World) (h : HashAt w k s) (hrk : ∀ t, t < 64 → w.cell? ⟨1, t, none⟩ = some (u (rk t))) (hk1 : k ≠ 1) :
    Calls Tryd.prog 57 #[.pointer (some ⟨k, 0, none⟩), .pointer (some ⟨k, 8, none⟩)] w fun e w' => e = .returned (.tuple #[]) ∧ HashAt w' k { s with ws := mixf rk s.ws s.tl } ∧ But k w w' := by
  have HH := Lib.hid h
  obtain ⟨kt, hkt⟩ : ∃ kt, w.heap.size = kt := ⟨_, rfl⟩
  obtain ⟨w1, hw1⟩ : ∃ w1, w.alloc (.cells (us zeros64).toArray 137) = w1 := ⟨_, rfl⟩
  have HB1 := Lib.hid (show Below w.heap.size w w1 from hw1 ▸ below_alloc (Below.refl _ _) _)
  have HT1 := Lib.hid (show Blk w1 kt 137 (us zeros64) from hkt ▸ hw1 ▸ Blk.new w 137 (us zeros64))
  have HKT := Lib.hid hkt
  have HRK := Lib.hid hrk
  have HW1 := Lib.hid hw1
  have hkk : k < kt := hkt ▸ h.1.lt
  clear h hrk hw1
  go_enter Tryd.func57, Tryd.ntmps57
  go_wp2_with fail
  change Code.wp _ _ _ _ (w.alloc (.cells (us zeros64).toArray 137))
  rw [HW1.out]
  clear hkt
  go_loopw [18] (fun v18 wr => ∃ (i : Nat), i ≤ 16 ∧ v18 = .int .i64 i ∧ Blk wr kt 137 (us (run (tab1 s.tl) i zeros64)) ∧ But kt w1 wr) (fun v18 _ => 16 - (RowKit.intOf v18).toNat)
  case atStart => exact ⟨0, Nat.zero_le _, rfl, HT1.out, But.refl _ _⟩
  case round =>
    obtain ⟨i, hi, rfl, hb, hbut⟩ := hrel
    have HL := Lib.hid (run_len (n := 64) (tab1_len s.tl) i zeros64 (by decide))
    have HBT := Lib.hid hbut
    by_cases hlt : i < 16
    · have hh : HashAt wr k s := ⟨((HH.out.1.below HB1.out).but hbut (by omega)), HH.out.2⟩
      have c0 := hh.tail (4 * i) (by omega)
      have c1 := hh.tail (4 * i + 1) (by omega)
      have c2 := hh.tail (4 * i + 2) (by omega)
      have c3 := hh.tail (4 * i + 3) (by omega)
      have HST := Lib.hid (show run (tab1 s.tl) (i + 1) zeros64 = (run (tab1 s.tl) i zeros64).set i (word4 (s.tl.getD (4 * i) 0) (s.tl.getD (4 * i + 1) 0) (s.tl.getD (4 * i + 2) 0) (s.tl.getD (4 * i + 3) 0)) from rfl)
      obtain ⟨L, hL⟩ : ∃ L, run (tab1 s.tl) i zeros64 = L := ⟨_, rfl⟩
      rw [hL] at hb HL HST
      obtain ⟨x0, hx0⟩ : ∃ x, s.tl.getD (4 * i) 0 = x := ⟨_, rfl⟩
      obtain ⟨x1, hx1⟩ : ∃ x, s.tl.getD (4 * i + 1) 0 = x := ⟨_, rfl⟩
      obtain ⟨x2, hx2⟩ : ∃ x, s.tl.getD (4 * i + 2) 0 = x := ⟨_, rfl⟩
      obtain ⟨x3, hx3⟩ : ∃ x, s.tl.getD (4 * i + 3) 0 = x := ⟨_, rfl⟩
      rw [hx0] at c0 HST
      rw [hx1] at c1 HST
      rw [hx2] at c2 HST
      rw [hx3] at c3 HST
      obtain ⟨j, hj⟩ : ∃ j, 4 * i = j := ⟨_, rfl⟩
      rw [hj] at c0 c1 c2 c3
      have e0 : IntKind.i64.wrap (4 * (i : Int)) = (j : Int) := by rw [IntWalk.i64_in _ (by omega)]; omega
      have e1 : IntKind.i64.wrap ((j : Int) + 1) = (j : Int) + 1 := IntWalk.i64_in _ (by omega)
      have e2 : IntKind.i64.wrap ((j : Int) + 2) = (j : Int) + 2 := IntWalk.i64_in _ (by omega)
      have e3 : IntKind.i64.wrap ((j : Int) + 3) = (j : Int) + 3 := IntWalk.i64_in _ (by omega)
      have t1 : ((j : Int) + 1).toNat = j + 1 := by omega
      have t2 : ((j : Int) + 2).toNat = j + 2 := by omega
      have t3 : ((j : Int) + 3).toNat = j + 3 := by omega
      have q0 : (j : Int) < 64 := by omega
      have q1 : (j : Int) + 1 < 64 := by omega
      have q2 : (j : Int) + 2 < 64 := by omega
      have q3 : (j : Int) + 3 < 64 := by omega
      have p0 : (0 : Int) ≤ (j : Int) := by omega
      have p1 : (0 : Int) ≤ (j : Int) + 1 := by omega
      have p2 : (0 : Int) ≤ (j : Int) + 2 := by omega
      have p3 : (0 : Int) ≤ (j : Int) + 3 := by omega
      have pi : (0 : Int) ≤ (i : Int) := by omega
      have qi : (i : Int) < 64 := by omega
      have HBK := Lib.hid hb
      clear hj hx0 hx1 hx2 hx3 hL hh hb hbut
      go_upto_region 4 with (fail)
      go_still_tail 39, (by kernel_rfl)
      change wpList _ _ _ _ _ wr.drew
      have HBK2 := Lib.hid (show Blk wr.drew kt 137 (us L) from HBK.out)
      have hth : wr.drew.cell? ⟨kt, i, none⟩ = some (u (L.getD i 0)) := HBK2.out.word i (by rw [HL.out]; omega)
      have hfz : wr.drew.frozen? ⟨kt, i, none⟩ = false := HBK2.out.frozen i
      have HBT2 := Lib.hid (show But kt w1 wr.drew from HBT.out.trans (But.of_below (pw_below_drewN (Below.refl _ wr) 1)))
      obtain ⟨w2, hw2⟩ : ∃ w2, wr.drew = w2 := ⟨_, rfl⟩
      rw [hw2] at HBK2 hth hfz HBT2 ⊢
      rw [← word4_def x0 x1 x2 x3]
      clear hw2 c0 c1 c2 c3 e0 e1 e2 e3 t1 t2 t3 q0 q1 q2 q3 p0 p1 p2 p3
      go_wp2_with fail
      go_roundw
      case rel => exact ⟨i + 1, by omega, by go_num, by rw [HST.out, ← us_set]; exact HBK2.out.set i _, HBT2.out.set i _⟩
      all_goals (simp only [RowKit.intOf]; omega)
    · obtain rfl : i = 16 := by omega
      rw [show ((16 : Nat) : Int) = 16 from rfl]
      obtain ⟨L1, hL1⟩ : ∃ L1, run (tab1 s.tl) 16 zeros64 = L1 := ⟨_, rfl⟩
      rw [hL1] at hb HL
      have HB2 := Lib.hid hb
      have HTAB1 := Lib.hid (show IsRun (tab1 s.tl) 16 zeros64 L1 from ⟨16, rfl, hL1⟩)
      clear hL1 hb hbut
      go_wp2_with fail
      obtain ⟨wa, rfl⟩ : ∃ wa, wa = wr := ⟨_, rfl⟩
      go_loopw [6] (fun v6 wr => ∃ (i : Nat), 16 ≤ i ∧ i ≤ 64 ∧ v6 = .int .i64 i ∧ Blk wr kt 137 (us (run tab2 (i - 16) L1)) ∧ But kt w1 wr) (fun v6 _ => 64 - (RowKit.intOf v6).toNat)
      case atStart => exact ⟨16, by decide, by decide, rfl, HB2.out, HBT.out⟩
      case round =>
        obtain ⟨i, hi0, hi, rfl, hb, hbut⟩ := hrel
        have HL2 := Lib.hid (run_len (n := 64) tab2_len (i - 16) L1 HL.out)
        have HBT3 := Lib.hid hbut
        clear HBT HB2
        by_cases hlt : i < 64
        · obtain ⟨d, hd⟩ : ∃ d, i = d + 16 := ⟨i - 16, by omega⟩
          have HST := Lib.hid (show run tab2 (i + 1 - 16) L1 = tab2 (i - 16) (run tab2 (i - 16) L1) from by rw [show i + 1 - 16 = (i - 16) + 1 by omega]; rfl)
          rw [show i - 16 = d by omega] at hb HL2 HST
          obtain ⟨L, hL⟩ : ∃ L, run tab2 d L1 = L := ⟨_, rfl⟩
          rw [hL] at hb HL2 HST
          have HBK := Lib.hid hb
          have ca : ∀ q : Cls wr, q.at.cell? ⟨kt, d + 1, none⟩ = some (u (L.getD (d + 1) 0)) := fun q => q.cell (hb.word _ (by rw [HL2.out]; omega))
          have cb : ∀ q : Cls wr, q.at.cell? ⟨kt, d + 14, none⟩ = some (u (L.getD (d + 14) 0)) := fun q => q.cell (hb.word _ (by rw [HL2.out]; omega))
          obtain ⟨x, hx⟩ : ∃ x, L.getD (d + 1) 0 = x := ⟨_, rfl⟩
          obtain ⟨y, hy⟩ : ∃ y, L.getD (d + 14) 0 = y := ⟨_, rfl⟩
          rw [hx] at ca
          rw [hy] at cb
          have e1 : IntKind.i64.wrap ((i : Int) - 15) = (d : Int) + 1 := by rw [IntWalk.i64_in _ (by omega)]; omega
          have e2 : IntKind.i64.wrap ((i : Int) - 2) = (d : Int) + 14 := by rw [IntWalk.i64_in _ (by omega)]; omega
          have t1 : ((d : Int) + 1).toNat = d + 1 := by omega
          have t2 : ((d : Int) + 14).toNat = d + 14 := by omega
          have p1 : (0 : Int) ≤ (d : Int) + 1 := by omega
          have p2 : (0 : Int) ≤ (d : Int) + 14 := by omega
          have q1 : (d : Int) + 1 < 64 := by omega
          have q2 : (d : Int) + 14 < 64 := by omega
          have HX := Lib.hid hx
          have HY := Lib.hid hy
          have HD := Lib.hid hd
          have HLL := Lib.hid hL
          clear hx hy hd hL hb hbut
          go_upto_region 9 with (fail)
          refine wp_region_cls (by kernel_rfl) (by kernel_rfl) ?_
          repeat (first | go_big_quiet_skip | go_big_quiet_step (fail))
          refine wpQuiet_nil ?_
          rintro wy ⟨q, rfl⟩
          have HBK3 := Lib.hid (HBK.out.below q.below)
          have HBT4 := Lib.hid (HBT3.out.trans (But.of_below q.below))
          obtain ⟨wz, hwz⟩ : ∃ wz, q.at = wz := ⟨_, rfl⟩
          rw [hwz] at HBK3 HBT4 ⊢
          clear hwz q ca cb e1 e2 t1 t2 p1 p2 q1 q2
          have HZ := Lib.hid (Below.refl wz.heap.size wz)
          go_upto_region 12 with (go_at_call 78; refine (turn_below _ _ (by decide) (by decide) _).mono ?_; rintro e wt ⟨rfl, hbt⟩; have HZ := Lib.hid (HZ.out.trans (hbt.mono HZ.out.size)); clear hbt)
          rw [← s0v_def, ← s1v_def]
          obtain ⟨S0, hS0⟩ : ∃ S, s0v x = S := ⟨_, rfl⟩
          obtain ⟨S1, hS1⟩ : ∃ S, s1v y = S := ⟨_, rfl⟩
          rw [hS0, hS1]
          have HST2 := Lib.hid (show tab2 d L = L.set i (nextw S0 S1 (L.getD (d + 9) 0) (L.getD d 0)) from by rw [← hS0, ← hS1, ← HX.out, ← HY.out, HD.out]; rfl)
          have HBK4 := Lib.hid (HBK3.out.below HZ.out)
          have HBT5 := Lib.hid (HBT4.out.trans (But.of_below HZ.out))
          have hd := HD.out
          have e3 : IntKind.i64.wrap ((i : Int) - 7) = (d : Int) + 9 := by rw [IntWalk.i64_in _ (by omega)]; omega
          have e4 : IntKind.i64.wrap ((i : Int) - 16) = (d : Int) := by rw [IntWalk.i64_in _ (by omega)]; omega
          have t3 : ((d : Int) + 9).toNat = d + 9 := by omega
          have p3 : (0 : Int) ≤ (d : Int) + 9 := by omega
          have p4 : (0 : Int) ≤ (d : Int) := by omega
          have q3 : (d : Int) + 9 < 64 := by omega
          have q4 : (d : Int) < 64 := by omega
          have qi : (i : Int) < 64 := by omega
          have pi : (0 : Int) ≤ (i : Int) := by omega
          have cc : wt.cell? ⟨kt, d + 9, none⟩ = some (u (L.getD (d + 9) 0)) := HBK4.out.word _ (by rw [HL2.out]; omega)
          have cd : wt.cell? ⟨kt, d, none⟩ = some (u (L.getD d 0)) := HBK4.out.word _ (by rw [HL2.out]; omega)
          obtain ⟨A, hA⟩ : ∃ A, L.getD (d + 9) 0 = A := ⟨_, rfl⟩
          obtain ⟨B, hB⟩ : ∃ B, L.getD d 0 = B := ⟨_, rfl⟩
          rw [hA] at cc HST2
          rw [hB] at cd HST2
          clear hS0 hS1 hd hA hB HBK3 HBT4 HZ
          go_still_tail 15, (by kernel_rfl)
          change wpList _ _ _ _ _ wt.drew
          have HBK5 := Lib.hid (show Blk wt.drew kt 137 (us L) from HBK4.out)
          have hth : wt.drew.cell? ⟨kt, i, none⟩ = some (u (L.getD i 0)) := HBK5.out.word i (by rw [HL2.out]; omega)
          have hfz : wt.drew.frozen? ⟨kt, i, none⟩ = false := HBK5.out.frozen i
          have HBT6 := Lib.hid (show But kt w1 wt.drew from HBT5.out.trans (But.of_below (pw_below_drewN (Below.refl _ wt) 1)))
          obtain ⟨wv, hwv⟩ : ∃ wv, wt.drew = wv := ⟨_, rfl⟩
          rw [hwv] at HBK5 hth hfz HBT6 ⊢
          rw [← nextw_def S0 S1 A B]
          clear hwv cc cd e3 e4 t3 p3 p4 q3 q4
          go_wp2_with fail
          go_roundw
          case rel => exact ⟨i + 1, by omega, by omega, by go_num, by rw [HST.out, HST2.out, ← us_set]; exact HBK5.out.set i _, HBT6.out.set i _⟩
          all_goals (simp only [RowKit.intOf]; omega)
        · obtain rfl : i = 64 := by omega
          rw [show ((64 : Nat) : Int) = 64 from rfl]
          rw [show (64 : Nat) - 16 = 48 from rfl] at hb HL2
          obtain ⟨T, hT⟩ : ∃ T, run tab2 48 L1 = T := ⟨_, rfl⟩
          rw [hT] at hb HL2
          have HTT := Lib.hid (show IsRun tab2 48 L1 T from ⟨48, rfl, hT⟩)
          have HBT7 := Lib.hid hb
          obtain ⟨wb, rfl⟩ : ∃ wb, wb = wr := ⟨_, rfl⟩
          clear hT hb hbut
          have HK := Lib.hid (show HashAt wb k s from ⟨(HH.out.1.below HB1.out).but HBT3.out (by omega), HH.out.2⟩)
          have hw8 := HK.out.2.ws
          obtain ⟨ws, tl, hv, al⟩ := s
          obtain ⟨a0, a1, a2, a3, a4, a5, a6, a7, hws⟩ := list8 hw8
          simp only at hws hw8
          subst hws
          have h0 := HK.out.word 0 (by decide)
          have h1 := HK.out.word 1 (by decide)
          have h2 := HK.out.word 2 (by decide)
          have h3 := HK.out.word 3 (by decide)
          have h4 := HK.out.word 4 (by decide)
          have h5 := HK.out.word 5 (by decide)
          have h6 := HK.out.word 6 (by decide)
          have h7 := HK.out.word 7 (by decide)
          simp only [List.getD_cons_zero, List.getD_cons_succ] at h0 h1 h2 h3 h4 h5 h6 h7
          go_wp2_with fail
          clear h0 h1 h2 h3 h4 h5 h6 h7 hw8
          change Code.wp _ _ _ _ (wb.alloc (.cells (us [a0, a1, a2, a3, a4, a5, a6, a7]).toArray 109))
          obtain ⟨kv, hkv⟩ : ∃ kv, wb.heap.size = kv := ⟨_, rfl⟩
          obtain ⟨wd, hwd⟩ : ∃ wd, wb.alloc (.cells (us [a0, a1, a2, a3, a4, a5, a6, a7]).toArray 109) = wd := ⟨_, rfl⟩
          have HWD := Lib.hid (show wd.heap.size = kv + 1 from by rw [← hwd, ← hkv]; simp)
          have HBV := Lib.hid (show Blk wd kv 109 (us [a0, a1, a2, a3, a4, a5, a6, a7]) from hkv ▸ hwd ▸ Blk.new wb 109 _)
          have HB3 := Lib.hid (show Below wb.heap.size wb wd from hwd ▸ below_alloc (Below.refl _ _) _)
          have hktv : kt < kv := hkv ▸ HBT7.out.lt
          have HTD := Lib.hid (HBT7.out.below HB3.out)
          have HKD := Lib.hid (show HashAt wd k _ from ⟨HK.out.1.below HB3.out, HK.out.2⟩)
          have HRD := Lib.hid (fun t (ht : t < 64) => (show wd.cell? ⟨1, t, none⟩ = some (u (rk t)) from by
            have h9 := pw_cell_below HB1.out (HRK.out t ht)
            have h1k : 1 < w.heap.size := World.block_lt_of_cell? w _ (HRK.out t ht)
            have h10 : wb.heap[1]? = w1.heap[1]? := HBT3.out.block 1 (Nat.lt_of_lt_of_le h1k HB1.out.size) (by have := HKT.out; omega)
            have h11 : wb.cell? ⟨1, t, none⟩ = w1.cell? ⟨1, t, none⟩ := by unfold World.cell?; rw [h10]
            exact pw_cell_below HB3.out (h11.trans h9)))
          rw [hwd, hkv]
          have HKV := Lib.hid hkv
          clear hwd hkv
          go_loopw [108] (fun v108 wr => ∃ (i : Nat), i ≤ 64 ∧ v108 = .int .i64 i ∧ Blk wr kv 109 (us (run (rnd rk T) i [a0, a1, a2, a3, a4, a5, a6, a7])) ∧ But kv wd wr) (fun v108 _ => 64 - (RowKit.intOf v108).toNat)
          case atStart => exact ⟨0, Nat.zero_le _, rfl, HBV.out, But.refl _ _⟩
          case round =>
            obtain ⟨i, hi, rfl, hb, hbut⟩ := hrel
            have HV := Lib.hid (run_len (n := 8) (rnd_len rk T) i [a0, a1, a2, a3, a4, a5, a6, a7] rfl)
            have HBD := Lib.hid hbut
            by_cases hlt : i < 64
            · have HST := Lib.hid (show run (rnd rk T) (i + 1) [a0, a1, a2, a3, a4, a5, a6, a7] = rnd rk T i (run (rnd rk T) i [a0, a1, a2, a3, a4, a5, a6, a7]) from rfl)
              obtain ⟨V, hV⟩ : ∃ V, run (rnd rk T) i [a0, a1, a2, a3, a4, a5, a6, a7] = V := ⟨_, rfl⟩
              rw [hV] at hb HV HST
              obtain ⟨v0, v1, v2, v3, v4, v5, v6, v7, rfl⟩ := list8 HV.out
              have HBK := Lib.hid hb
              have c0 : ∀ q : Cls wr, q.at.cell? ⟨kv, 0, none⟩ = some (u v0) := fun q => q.cell (hb.word 0 (by decide : 0 < 8))
              have c1 : ∀ q : Cls wr, q.at.cell? ⟨kv, 1, none⟩ = some (u v1) := fun q => q.cell (hb.word 1 (by decide : 1 < 8))
              have c2 : ∀ q : Cls wr, q.at.cell? ⟨kv, 2, none⟩ = some (u v2) := fun q => q.cell (hb.word 2 (by decide : 2 < 8))
              have c4 : ∀ q : Cls wr, q.at.cell? ⟨kv, 4, none⟩ = some (u v4) := fun q => q.cell (hb.word 4 (by decide : 4 < 8))
              have c5 : ∀ q : Cls wr, q.at.cell? ⟨kv, 5, none⟩ = some (u v5) := fun q => q.cell (hb.word 5 (by decide : 5 < 8))
              have c6 : ∀ q : Cls wr, q.at.cell? ⟨kv, 6, none⟩ = some (u v6) := fun q => q.cell (hb.word 6 (by decide : 6 < 8))
              have c7 : ∀ q : Cls wr, q.at.cell? ⟨kv, 7, none⟩ = some (u v7) := fun q => q.cell (hb.word 7 (by decide : 7 < 8))
              clear hV hb hbut
              go_upto_region 17 with (fail)
              refine wp_region_cls (by kernel_rfl) (by kernel_rfl) ?_
              repeat (first | go_big_quiet_skip | go_big_quiet_step (fail))
              refine wpQuiet_nil ?_
              rintro wy ⟨q, rfl⟩
              have HBKz := Lib.hid (HBK.out.below q.below)
              have HBDz := Lib.hid (HBD.out.trans (But.of_below q.below))
              obtain ⟨wz, hwz⟩ : ∃ wz, q.at = wz := ⟨_, rfl⟩
              rw [hwz] at HBKz HBDz ⊢
              clear hwz q c0 c1 c2 c4 c5 c6 c7 HBK HBD
              have HTz := Lib.hid (HTD.out.but HBDz.out (by omega))
              have HRz := Lib.hid (show wz.cell? ⟨1, i, none⟩ = some (u (rk i)) from by
                have h9 := HRD.out i hlt
                have h1k : 1 < wd.heap.size := World.block_lt_of_cell? wd _ h9
                have h10 : wz.heap[1]? = wd.heap[1]? := HBDz.out.block 1 h1k (by have := World.block_lt_of_cell? w _ (HRK.out i hlt); have := HKT.out; omega)
                have h11 : wz.cell? ⟨1, i, none⟩ = wd.cell? ⟨1, i, none⟩ := by unfold World.cell?; rw [h10]
                exact h11.trans h9)
              have c5 : ∀ q : Cls wz, q.at.cell? ⟨kv, 5, none⟩ = some (u v5) := fun q => q.cell (HBKz.out.word 5 (by decide : 5 < 8))
              have c6 : ∀ q : Cls wz, q.at.cell? ⟨kv, 6, none⟩ = some (u v6) := fun q => q.cell (HBKz.out.word 6 (by decide : 6 < 8))
              have c7 : ∀ q : Cls wz, q.at.cell? ⟨kv, 7, none⟩ = some (u v7) := fun q => q.cell (HBKz.out.word 7 (by decide : 7 < 8))
              have cr : ∀ q : Cls wz, q.at.cell? ⟨1, i, none⟩ = some (u (rk i)) := fun q => q.cell HRz.out
              have ct : ∀ q : Cls wz, q.at.cell? ⟨kt, i, none⟩ = some (u (T.getD i 0)) := fun q => q.cell (HTz.out.word i (by rw [HL2.out]; exact hlt))
              obtain ⟨R, hR⟩ : ∃ R, rk i = R := ⟨_, rfl⟩
              obtain ⟨W, hW⟩ : ∃ W, T.getD i 0 = W := ⟨_, rfl⟩
              rw [hR] at cr
              rw [hW] at ct
              have HRR := Lib.hid hR
              have HWW := Lib.hid hW
              have pi : (0 : Int) ≤ (i : Int) := by omega
              have qi : (i : Int) < 64 := by omega
              clear hR hW
              go_upto_region 18 with (fail)
              refine wp_region_cls (by kernel_rfl) (by kernel_rfl) ?_
              repeat (first | go_big_quiet_skip | go_big_quiet_step (refine cls_call (turn_below _ _ (by decide) (by decide) _)))
              refine wpQuiet_nil ?_
              rintro wy ⟨q, rfl⟩
              have HBKy := Lib.hid (HBKz.out.below q.below)
              have HBDy := Lib.hid (HBDz.out.trans (But.of_below q.below))
              obtain ⟨wy, hwy⟩ : ∃ wy, q.at = wy := ⟨_, rfl⟩
              rw [hwy] at HBKy HBDy ⊢
              clear hwy q c5 c6 c7 cr ct HBKz HBDz HTz HRz
              have c1 : ∀ q : Cls wy, q.at.cell? ⟨kv, 1, none⟩ = some (u v1) := fun q => q.cell (HBKy.out.word 1 (by decide : 1 < 8))
              have c2 : ∀ q : Cls wy, q.at.cell? ⟨kv, 2, none⟩ = some (u v2) := fun q => q.cell (HBKy.out.word 2 (by decide : 2 < 8))
              go_upto_region 19 with (fail)
              refine wp_region_cls (by kernel_rfl) (by kernel_rfl) ?_
              repeat (first | go_big_quiet_skip | go_big_quiet_step (refine cls_call (turn_below _ _ (by decide) (by decide) _)))
              refine wpQuiet_nil ?_
              rintro wx ⟨q, rfl⟩
              have HBKx := Lib.hid (HBKy.out.below q.below)
              have HBDx := Lib.hid (HBDy.out.trans (But.of_below q.below))
              obtain ⟨wx, hwx⟩ : ∃ wx, q.at = wx := ⟨_, rfl⟩
              rw [hwx] at HBKx HBDx ⊢
              clear hwx q c1 c2 HBKy HBDy
              go_upto_region 20 with (fail)
              rw [← pv_def, ← qv_def]
              have HNEW := Lib.hid (show rnd rk T i [v0, v1, v2, v3, v4, v5, v6, v7] = [(pv v4 v5 v6 v7 R W + qv v0 v1 v2) % 4294967296, v0, v1, v2, (v3 + pv v4 v5 v6 v7 R W) % 4294967296, v4, v5, v6] from by rw [← HRR.out, ← HWW.out]; rfl)
              obtain ⟨p, hp⟩ : ∃ p, pv v4 v5 v6 v7 R W = p := ⟨_, rfl⟩
              obtain ⟨q, hq⟩ : ∃ q, qv v0 v1 v2 = q := ⟨_, rfl⟩
              rw [hp, hq] at HNEW ⊢
              clear hp hq
              have hkvx : kv < wx.heap.size := HBKx.out.lt
              go_still_tail 2, (by kernel_rfl)
              change wpList _ _ _ _ _ wx.drew
              have HBK6 := Lib.hid (show Blk wx.drew kv 109 (us [v0, v1, v2, v3, v4, v5, v6, v7]) from HBKx.out)
              have HBD6 := Lib.hid (show But kv wd wx.drew from HBDx.out.trans (But.of_below (pw_below_drewN (Below.refl _ wx) 1)))
              obtain ⟨wv, hwv⟩ : ∃ wv, wx.drew = wv := ⟨_, rfl⟩
              rw [hwv] at HBK6 HBD6 ⊢
              clear hwv
              refine wpList_copy_splice rfl (.tmp 169) (.tmp 170) 139 139 rfl 108 Tryd.underlying139 (by kernel_rfl) (some ⟨kv, 1, none⟩) (some ⟨kv, 0, none⟩) 7 7 7 8 rfl rfl kv 1 (us [v0, v1, v2, v3, v4, v5, v6, v7]) 109 HBK6.out (us [v0, v1, v2, v3, v4, v5, v6]) rfl (fun _ => ⟨rfl, _, rfl, fun j v hj => ?_⟩) (by simp) (fun v hv => ?_) kv wv (Below.refl _ _) (Nat.le_refl _) ?_
              · have hj7 : j < 7 := (List.getElem?_eq_some_iff.1 hj).1
                rw [Addr.add_lit, Nat.zero_add, HBK6.out.cell, ← hj]
                show ([u v0, u v1, u v2, u v3, u v4, u v5, u v6] ++ [u v7])[j]? = [u v0, u v1, u v2, u v3, u v4, u v5, u v6][j]?
                rw [List.getElem?_append_left (by simpa using hj7)]
              · obtain ⟨z, _, rfl⟩ := List.mem_map.1 hv
                rfl
              intro wu hgu hbu
              have HBK7 := Lib.hid (show Blk wu kv 109 (us [v0, v0, v1, v2, v3, v4, v5, v6]) from hgu.out)
              have HBD7 := Lib.hid (show But kv wd wu from ⟨hbu.os.trans HBD6.out.os, hbu.tape.trans HBD6.out.tape, hbu.output.trans HBD6.out.output, Nat.le_trans HBD6.out.size hbu.size, fun j hj hne => (hbu.block j (by have := HWD.out; omega)).trans (HBD6.out.block j hj hne)⟩)
              clear hgu hbu HBK6 HBD6
              have d4 : wu.cell? ⟨kv, 4, none⟩ = some (u v3) := HBK7.out.word 4 (by decide : 4 < 8)
              have d0 : wu.cell? ⟨kv, 0, none⟩ = some (u v0) := HBK7.out.word 0 (by decide : 0 < 8)
              have f4 : wu.frozen? ⟨kv, 4, none⟩ = false := HBK7.out.frozen 4
              have f0 : wu.frozen? ⟨kv, 0, none⟩ = false := HBK7.out.frozen 0
              go_wp2_with fail
              go_roundw
              case rel =>
                refine ⟨i + 1, by omega, by go_num, ?_, (HBD7.out.set 4 _).set 0 _⟩
                rw [HST.out, HNEW.out]
                have h9 := (HBK7.out.set 4 (u ((v3 + p) % 4294967296))).set 0 (u ((p + q) % 4294967296))
                exact h9
              all_goals (simp only [RowKit.intOf]; omega)
            · obtain rfl : i = 64 := by omega
              rw [show ((64 : Nat) : Int) = 64 from rfl]
              obtain ⟨V, hV⟩ : ∃ V, run (rnd rk T) 64 [a0, a1, a2, a3, a4, a5, a6, a7] = V := ⟨_, rfl⟩
              rw [hV] at hb HV
              have HVV := Lib.hid (show IsRun (rnd rk T) 64 [a0, a1, a2, a3, a4, a5, a6, a7] V from ⟨64, rfl, hV⟩)
              have HBV2 := Lib.hid hb
              obtain ⟨we, rfl⟩ : ∃ we, we = wr := ⟨_, rfl⟩
              have HBWE := Lib.hid hbut
              have HKE := Lib.hid (show HashAt we k _ from ⟨HKD.out.1.but hbut (by omega), HKD.out.2⟩)
              clear hV hb hbut
              go_wp2_with fail
              go_loopw [182] (fun v182 wr => ∃ (i : Nat), i ≤ 8 ∧ v182 = .int .i64 i ∧ HashAt wr k ⟨run (addw V) i [a0, a1, a2, a3, a4, a5, a6, a7], tl, hv, al⟩ ∧ But k we wr) (fun v182 _ => 8 - (RowKit.intOf v182).toNat)
              case atStart => exact ⟨0, Nat.zero_le _, rfl, HKE.out, But.refl _ _⟩
              case round =>
                obtain ⟨i, hi, rfl, hh, hbut⟩ := hrel
                have HHr := Lib.hid hh
                have HBU := Lib.hid hbut
                by_cases hlt : i < 8
                · have hw1 := hh.word i hlt
                  have hw2 := (HBV2.out.but hbut (by omega)).word i (by rw [HV.out]; exact hlt)
                  have hf := hh.1.frozen i
                  have HST := Lib.hid (show run (addw V) (i + 1) [a0, a1, a2, a3, a4, a5, a6, a7] = addw V i (run (addw V) i [a0, a1, a2, a3, a4, a5, a6, a7]) from rfl)
                  obtain ⟨U, hU⟩ : ∃ U, run (addw V) i [a0, a1, a2, a3, a4, a5, a6, a7] = U := ⟨_, rfl⟩
                  simp only [hU] at hw1 HST HHr
                  obtain ⟨x, hx⟩ : ∃ x, U.getD i 0 = x := ⟨_, rfl⟩
                  obtain ⟨y, hy⟩ : ∃ y, V.getD i 0 = y := ⟨_, rfl⟩
                  rw [hx] at hw1
                  rw [hy] at hw2
                  have HXY := Lib.hid (show addw V i U = U.set i ((x + y) % 4294967296) from by rw [← hx, ← hy]; rfl)
                  have pi : (0 : Int) ≤ (i : Int) := by omega
                  have qi : (i : Int) < 8 := by omega
                  clear hU hx hy hh hbut
                  go_upto_region 27 with (fail)
                  go_still_tail 12, (by kernel_rfl)
                  change wpList _ _ _ _ _ wr.drew
                  have HH2 := Lib.hid (show HashAt wr.drew k ⟨U, tl, hv, al⟩ from HHr.out)
                  have HB2 := Lib.hid (show But k we wr.drew from HBU.out.trans (But.of_below (pw_below_drewN (Below.refl _ wr) 1)))
                  have e1 : wr.drew.cell? ⟨k, i, none⟩ = some (u x) := hw1
                  have e2 : wr.drew.frozen? ⟨k, i, none⟩ = false := hf
                  obtain ⟨wv, hwv⟩ : ∃ wv, wr.drew = wv := ⟨_, rfl⟩
                  rw [hwv] at HH2 HB2 e1 e2 ⊢
                  clear hwv hw1 hw2 hf
                  go_wp2_with fail
                  go_roundw
                  case rel =>
                    refine ⟨i + 1, by omega, by go_num, ?_, HB2.out.set i _⟩
                    rw [HST.out, HXY.out]
                    exact HH2.out.setWord i hlt _
                  all_goals (simp only [RowKit.intOf]; omega)
                · obtain rfl : i = 8 := by omega
                  have HFIN := Lib.hid (show HashAt wr k ⟨mixf rk [a0, a1, a2, a3, a4, a5, a6, a7] tl, tl, hv, al⟩ from by
                    have h9 := HHr.out
                    rw [← HVV.out.eq, ← HTT.out.eq, ← HTAB1.out.eq] at h9
                    exact h9)
                  have HBF := Lib.hid (show But k w wr from (But.of_below (show Below w.heap.size w we from by
                    have b1 := HB1.out
                    have b2 : Below w.heap.size w1 wb := (HBT3.out.below_of (by have := HKT.out; omega) b1.size)
                    have b3 := HB3.out
                    have b4 : Below w.heap.size wd we := (HBWE.out.below_of (by have := HKV.out; have := HKT.out; have := b1.size; have := b2.size; omega) (by have := b1.size; have := b2.size; have := b3.size; omega))
                    exact ((b1.trans b2).trans (b3.mono (by have := b1.size; have := b2.size; omega))).trans b4)).trans HBU.out)
                  go_wp2_with fail
                  go_end0
                  exact ⟨rfl, HFIN.out, HBF.out⟩
end Go.Proofs.YtfbkkcigkpffiaaDoor.St

namespace Go.Proofs.YtfbkkcigkpffiaaDoor.St
open Go Go.Lib Go.RowKit Go.ChangeMaps Go.Proofs.YtfbkkcigkpffiaaDoorW.PrintWords Go.Proofs.YtfbkkcigkpffiaaDoorW.PrintLast Go.Proofs.YtfbkkcigkpffiaaDoorW.PrintMore Go.Proofs.YtfbkkcigkpffiaaDoor.PStoreMany
set_option linter.unusedVariables false
set_option linter.unusedSimpArgs false
/-- One turn of Write's loop. -/
def wstep (rk : Nat → Int) (p : Hs × List Int) : Hs × List Int :=
  let n := min p.2.length (64 - p.1.hv)
  let tl := splice p.1.tl p.1.hv (p.2.take n)
  if p.1.hv + n = 64 then (⟨mixf rk p.1.ws tl, tl, 0, p.1.al⟩, p.2.drop n) else (⟨p.1.ws, tl, p.1.hv + n, p.1.al⟩, p.2.drop n)
theorem wstep_nil (rk : Nat → Int) (s : Hs) (h : s.hv < 64) : wstep rk (s, []) = (s, []) := by
  unfold wstep
  simp only [List.length_nil, Nat.zero_min, List.take_nil, Nat.add_zero, List.drop_nil]
  rw [if_neg (by omega)]
  simp [splice]
/-- Write's end: some number of turns leave nothing of the bytes. -/
def Ends (rk : Nat → Int) (s : Hs) (b : List Int) (t : Hs) : Prop := ∃ i, run (fun _ => wstep rk) i (s, b) = (t, []) ∧ t.hv < 64
theorem run_add {S : Type} (f : S → S) (i j : Nat) (s : S) : run (fun _ => f) (i + j) s = run (fun _ => f) j (run (fun _ => f) i s) := by
  induction j with
  | zero => rfl
  | succ j ih => rw [← Nat.add_assoc, run_succ, run_succ, ih]
theorem run_fix {S : Type} (f : S → S) (s : S) (h : f s = s) (j : Nat) : run (fun _ => f) j s = s := by
  induction j with
  | zero => rfl
  | succ j ih => rw [run_succ, ih, h]
theorem Ends.uniq {rk : Nat → Int} {s t t' : Hs} {b : List Int} (h : Ends rk s b t) (h' : Ends rk s b t') : t = t' := by
  obtain ⟨i, hi, ht⟩ := h
  obtain ⟨j, hj, ht'⟩ := h'
  rcases Nat.le_total i j with hij | hij
  · obtain ⟨d, rfl⟩ := Nat.exists_eq_add_of_le hij
    rw [run_add, hi, run_fix _ _ (wstep_nil rk t ht)] at hj
    exact congrArg Prod.fst hj
  · obtain ⟨d, rfl⟩ := Nat.exists_eq_add_of_le hij
    rw [run_add, hj, run_fix _ _ (wstep_nil rk t' ht')] at hi
    exact (congrArg Prod.fst hi).symm
open Classical in
noncomputable def written (rk : Nat → Int) (s : Hs) (b : List Int) : Hs := if h : ∃ t, Ends rk s b t then h.choose else s
theorem Ends.eq {rk : Nat → Int} {s t : Hs} {b : List Int} (h : Ends rk s b t) : written rk s b = t := by
  unfold written
  rw [dif_pos ⟨t, h⟩]
  exact (⟨t, h⟩ : ∃ t, Ends rk s b t).choose_spec.uniq h
/-- Bytes that lie outside block k. -/
def Src (k : Nat) (w : World) (A : Option Addr) (b : List Int) : Prop := b.length ≤ 140737488355328 ∧ (0 < b.length → ∃ ad, A = some ad ∧ ad.block ≠ k ∧ ∀ j x, b[j]? = some x → w.cell? (ad.add j) = some (b8 x))
theorem add_blk (a : Addr) (i : Nat) : (a.add i).block = a.block := by unfold Addr.add; split <;> rfl
theorem Src.but {k : Nat} {w w' : World} {A : Option Addr} {b : List Int} (h : Src k w A b) (hb : But k w w') : Src k w' A b := ⟨h.1, fun hp => by
  obtain ⟨ad, e, hk, hc⟩ := h.2 hp
  refine ⟨ad, e, hk, fun j x hj => ?_⟩
  have h1 := hc j x hj
  have h2 := World.block_lt_of_cell? w _ h1
  rw [← h1]
  have h3 : w'.heap[(ad.add j).block]? = w.heap[(ad.add j).block]? := hb.block _ h2 (by rw [add_blk]; exact hk)
  unfold World.cell?
  rw [h3]⟩
theorem add_add' (a : Addr) (i j : Nat) : (a.add i).add j = a.add (i + j) := by
  unfold Addr.add
  by_cases h1 : i = 0 <;> by_cases h2 : j = 0 <;> simp [h1, h2, Nat.add_assoc]
theorem Src.drop {k : Nat} {w : World} {A : Option Addr} {b : List Int} (h : Src k w A b) (n c : Nat) (hc : b.length ≤ c) : Src k w (if c = n then A else A.map (·.add n)) (b.drop n) := ⟨by rw [List.length_drop]; have := h.1; omega, fun hp => by
  rw [List.length_drop] at hp
  obtain ⟨ad, e, hk, hcell⟩ := h.2 (by omega)
  subst e
  rw [if_neg (by omega)]
  refine ⟨ad.add n, rfl, by rw [add_blk]; exact hk, fun j x hj => ?_⟩
  rw [List.getElem?_drop] at hj
  rw [add_add']
  exact hcell _ _ hj⟩
theorem But.setRow {k : Nat} {a b : World} (h : But k a b) (cs : Array Value) : But k a (b.setRow k cs) :=
  ⟨h.os, h.tape, h.output, by simpa [World.setRow] using h.size, fun j hj hk => (setRow_other b k j cs hk).trans (h.block j hj hk)⟩
theorem splice_len (L : List Int) (o : Nat) (cs : List Int) (h : o + cs.length ≤ L.length) : (splice L o cs).length = L.length := by
  simp [splice]; omega
/-- The tail written into. -/
theorem HashAt.put {w : World} {k : Nat} {s : Hs} (h : HashAt w k s) (cs : List Int) (hf : s.hv + cs.length ≤ 64) :
    HashAt (w.setRow k (s.cells.toArray.toList.take (8 + s.hv) ++ (cs.map b8 ++ s.cells.toArray.toList.drop (8 + s.hv + (cs.map b8).length))).toArray) k ⟨s.ws, splice s.tl s.hv cs, s.hv, s.al⟩ := by
  have h1 := h.1
  refine ⟨?_, h.2.ws, by rw [splice_len _ _ _ (by rw [h.2.tl]; exact hf)]; exact h.2.tl⟩
  have e : s.cells.toArray.toList.take (8 + s.hv) ++ (cs.map b8 ++ s.cells.toArray.toList.drop (8 + s.hv + (cs.map b8).length)) = Hs.cells ⟨s.ws, splice s.tl s.hv cs, s.hv, s.al⟩ := by
    have hl := h.2.ws
    have ht := h.2.tl
    unfold Hs.cells
    simp only [splice, List.length_map]
    have hus : (us s.ws).length = 8 := by simp [hl]
    have htl : (s.tl.map b8).length = 64 := by simp [ht]
    rw [show 8 + s.hv = (us s.ws).length + s.hv by rw [hus], List.take_length_add_append, show (us s.ws).length + s.hv + cs.length = (us s.ws).length + (s.hv + cs.length) by omega, List.drop_length_add_append,
      List.take_append_of_le_length (by rw [htl]; omega), List.drop_append_of_le_length (by rw [htl]; omega)]
    simp [List.map_take, List.map_drop]
  have := setRow_heap w k _ (Hs.cells ⟨s.ws, splice s.tl s.hv cs, s.hv, s.al⟩).toArray 112 _ h1
  unfold Blk
  rw [e]
  exact this
theorem cut_b (A : Option Addr) (N c k n1 c1 : Nat) (B : Option Addr) (hk : k ≤ N) (hn : n1 = N - k) (hc1 : c1 = c - k) (hB : B = if c = k then A else A.map (·.add k)) : ∀ W : World, (Instr.slice 30 (.slice A N c) (some (.int .i64 (k : Int))) none none).run Tryd.prog W = .ok (.slice B n1 c1) W := by
  intro W
  have hel : Tryd.prog.elem 30 = 5 := by simp [Program.elem, Tryd.underlying30]
  have hu : Tryd.prog.underlying 30 = some (.slice (Tryd.prog.elem 30)) := by rw [hel]; exact Tryd.underlying30
  subst hn hc1 hB
  rw [run_slice_l W 30 A N c hu .i64 (k : Int) (by omega) (by omega), hel, Tryd.sizeOf5]
  simp only [Result.andThen_ok, sliced, Int.toNat_natCast, Nat.mul_one]
theorem info5 : (Tryd.prog.info? 5).map (fun i => (i.zero, i.size, i.bytes)) = some (some (.int .u8 0), 1, 1) := by kernel_rfl
theorem cut_cap {P : Program} (t e : TypeId) (kh : IntKind) {i : TypeInfo} (ht : P.underlying t = some (.slice e)) (hi : P.info? e = some i) (A : Option Addr) (n c : Nat) (j : Int) (h0 : 0 ≤ j) (hm : j ≤ c) :
    ∀ W : World, (Instr.slice t (.slice A n c) none (some (.int kh j)) none).run P W = .ok (.slice A j.toNat c) W := by
  intro W
  have hel : P.elem t = e := by simp [Program.elem, ht]
  have hu : P.underlying t = some (.slice (P.elem t)) := by rw [hel]; exact ht
  have ha : (A.map fun x => x.add 0) = A := by cases A <;> simp [Addr.add]
  rw [run_slice_h W t A n c hu kh j h0 hm, hel]
  simp [sizeOf, typeInfo, hi, sliced, Result.andThen, ha]
def slen : Value → Nat
  | .slice _ n _ => n
  | _ => 0
set_option maxRecDepth 100000 in
set_option maxHeartbeats 4000000 in
theorem write_walk (rk : Nat → Int) (k : Nat) (s : Hs) (b : List Int) (A : Option Addr) (c : Nat) (w : World) (h : HashAt w k s) (hrk : ∀ t, t < 64 → w.cell? ⟨1, t, none⟩ = some (u (rk t))) (hk1 : k ≠ 1) (hv : s.hv < 64) (hS : Src k w A b) (hc : b.length ≤ c) (hal : s.al + b.length ≤ 4611686018427387904) :
    Calls Tryd.prog 43 #[.pointer (some ⟨k, 0, none⟩), .slice A b.length c] w fun e w' => e = .returned (.tuple #[]) ∧ HashAt w' k (written rk { s with al := s.al + b.length } b) ∧ (written rk { s with al := s.al + b.length } b).hv < 64 ∧ But k w w' := by
  have HH := Lib.hid h
  have HS := Lib.hid hS
  have HRK := Lib.hid hrk
  have hbl := hS.1
  obtain ⟨N, hN⟩ : ∃ N, b.length = N := ⟨_, rfl⟩
  have ca := h.all
  have fa := h.1.frozen 73
  have HN := Lib.hid hN
  rw [hN] at hc hal hbl ⊢
  clear h hS hrk hN
  go_enter Tryd.func43, Tryd.ntmps43
  go_wp2_with fail
  have hvn : ((s.al : Int) + (N : Int)) = ((s.al + N : Nat) : Int) := by omega
  obtain ⟨s1, hs1⟩ : ∃ s1 : Hs, s1 = { s with al := s.al + N } := ⟨_, rfl⟩
  obtain ⟨w1, hw1⟩ : ∃ w1, w.setCell ⟨k, 73, none⟩ (.int .u64 ((s.al : Int) + (N : Int))) = w1 := ⟨_, rfl⟩
  have HH1 := Lib.hid (show HashAt w1 k s1 from by rw [hs1, ← hw1, hvn]; exact HH.out.setAll _)
  have HB1 := Lib.hid (show But k w w1 from by rw [← hw1]; exact (But.refl k w).set 73 _)
  have hv1 : s1.hv < 64 := by rw [hs1]; exact hv
  have HS1 := Lib.hid (show Src k w1 A b from HS.out.but HB1.out)
  have HSE := Lib.hid hs1
  rw [hw1]
  clear hw1 hs1 hvn ca fa HH HS hv hal
  go_loopw [1] (fun v1 wr => ∃ (i : Nat) (s2 : Hs) (b2 : List Int) (A2 : Option Addr) (c2 : Nat), v1 = .slice A2 b2.length c2 ∧ run (fun _ => wstep rk) i (s1, b) = (s2, b2) ∧ HashAt wr k s2 ∧ s2.hv < 64 ∧ Src k wr A2 b2 ∧ b2.length ≤ c2 ∧ But k w wr) (fun v1 _ => slen v1)
  case atStart => exact ⟨0, s1, b, A, c, by rw [HN.out], rfl, HH1.out, hv1, HS1.out, by rw [HN.out]; exact hc, HB1.out⟩
  case round =>
    obtain ⟨i, s2, b2, A2, c2, rfl, hrun, hh, hv2, hS2, hc2, hbut⟩ := hrel
    have HHr := Lib.hid hh
    have HSr := Lib.hid hS2
    have HBr := Lib.hid hbut
    have HRUN := Lib.hid hrun
    have ch := hh.have_
    have hbl2 := hS2.1
    obtain ⟨M, hM⟩ : ∃ M, b2.length = M := ⟨_, rfl⟩
    have HM := Lib.hid hM
    rw [hM] at hc2 hbl2 ⊢
    clear hh hS2 hbut hrun hM HH1 HB1 HS1 hv1
    by_cases hpos : 0 < M
    · obtain ⟨hv0, hhv⟩ : ∃ x, s2.hv = x := ⟨_, rfl⟩
      have HHV := Lib.hid hhv
      rw [hhv] at ch hv2
      clear hhv
      obtain ⟨m, hm⟩ : ∃ m, m = 64 - hv0 := ⟨_, rfl⟩
      have hm0 : 0 < m := by omega
      have hm64 : hv0 + m = 64 := by omega
      have hw0 : IntKind.i64.wrap (64 - (hv0 : Int)) = (m : Int) := by rw [IntWalk.i64_in _ (by omega)]; omega
      have HMM := Lib.hid hm
      clear hm
      obtain ⟨n, hn⟩ : ∃ n, n = min M m := ⟨_, rfl⟩
      have hn0 : 0 < n := by omega
      have hnM : n ≤ M := by omega
      have hnm : n ≤ m := by omega
      have hmin : (if m < M then (m : Int) else (M : Int)) = (n : Int) := by split <;> omega
      have HN1 := Lib.hid hn
      clear hn
      go_upto_region 3 with (fail)
      obtain ⟨ad, hA2, hadk, hcell⟩ := HSr.out.2 (by rw [HM.out]; exact hpos)
      subst hA2
      have HCELL := Lib.hid hcell
      have HADK := Lib.hid hadk
      obtain ⟨i5, hi5, _, _, _⟩ := info_parts info5
      have hsl1 := cut_cap (P := Tryd.prog) 30 5 .i64 Tryd.underlying30 hi5 (some ad) M c2 (n : Int) (by omega) (by omega)
      rw [Int.toNat_natCast] at hsl1
      have ph : (0 : Int) ≤ (hv0 : Int) := by omega
      have qh : (hv0 : Int) ≤ 64 := by omega
      have h64 : ¬ (64 = hv0) := by omega
      have hm' : 64 - hv0 = m := HMM.out.symm
      clear hmin hi5 hcell hadk
      go_still_tail 11, (by kernel_rfl)
      change wpList _ _ _ _ _ wr.drew
      have HH2 := Lib.hid (show HashAt wr.drew k s2 from HHr.out)
      have HB2 := Lib.hid (show But k w wr.drew from HBr.out.trans (But.of_below (pw_below_drewN (Below.refl _ wr) 1)))
      have HC2 := Lib.hid (show ∀ j x, b2[j]? = some x → wr.drew.cell? (ad.add j) = some (b8 x) from HCELL.out)
      have HS2 := Lib.hid (show Src k wr.drew (some ad) b2 from HSr.out.but (But.of_below (pw_below_drewN (Below.refl _ wr) 1)))
      obtain ⟨wv, hwv⟩ : ∃ wv, wr.drew = wv := ⟨_, rfl⟩
      rw [hwv] at HH2 HB2 HC2 HS2 ⊢
      clear hwv hsl1 ph qh h64 hm' HCELL HHr HBr HSr ch
      have htk : (b2.take n).length = n := by rw [List.length_take, HM.out]; omega
      have htk' : ((b2.take n).map b8).length = n := by rw [List.length_map]; exact htk
      refine wpList_copy_own rfl (.tmp 33) (.tmp 36) 30 30 rfl 5 Tryd.underlying30 (by kernel_rfl) k (8 + hv0) m m ad n c2 rfl rfl s2.cells.toArray 112 HH2.out.1 ((b2.take n).map b8) ?_ (fun j v hj => ?_) ?_ (fun v hv => ?_) ?_
      · rw [htk']; exact (Nat.min_eq_left hnm).symm
      · rw [List.getElem?_map, List.getElem?_take] at hj
        split at hj
        · cases hx : b2[j]? with
          | none => rw [hx] at hj; simp at hj
          | some x => rw [hx] at hj; obtain rfl := (by simpa using hj : _ = v); exact HC2.out j x hx
        · simp at hj
      · rw [htk']
        have := HH2.out.2
        simp [Hs.cells, this.ws, this.tl]
        omega
      · obtain ⟨x, _, rfl⟩ := List.mem_map.1 hv
        rfl
      have HH3 := Lib.hid (show HashAt (wv.setRow k (s2.cells.toArray.toList.take (8 + hv0) ++ (((b2.take n).map b8) ++ s2.cells.toArray.toList.drop (8 + hv0 + ((b2.take n).map b8).length))).toArray) k ⟨s2.ws, splice s2.tl s2.hv (b2.take n), s2.hv, s2.al⟩ from by
        have h9 := HH2.out.put (b2.take n) (by rw [htk, HHV.out]; omega)
        rw [HHV.out] at h9 ⊢
        exact h9)
      have HB3 := Lib.hid (HB2.out.setRow (s2.cells.toArray.toList.take (8 + hv0) ++ (((b2.take n).map b8) ++ s2.cells.toArray.toList.drop (8 + hv0 + ((b2.take n).map b8).length))).toArray)
      have HS3 := Lib.hid (HS2.out.but ((But.refl k wv).setRow (s2.cells.toArray.toList.take (8 + hv0) ++ (((b2.take n).map b8) ++ s2.cells.toArray.toList.drop (8 + hv0 + ((b2.take n).map b8).length))).toArray))
      obtain ⟨wu, hwu⟩ : ∃ wu, wv.setRow k (s2.cells.toArray.toList.take (8 + hv0) ++ (((b2.take n).map b8) ++ s2.cells.toArray.toList.drop (8 + hv0 + ((b2.take n).map b8).length))).toArray = wu := ⟨_, rfl⟩
      rw [hwu] at HH3 HB3 HS3 ⊢
      rw [htk']
      obtain ⟨TL, hTL⟩ : ∃ TL, splice s2.tl s2.hv (b2.take n) = TL := ⟨_, rfl⟩
      have HST := Lib.hid (show wstep rk (s2, b2) = if hv0 + n = 64 then (⟨mixf rk s2.ws TL, TL, 0, s2.al⟩, b2.drop n) else (⟨s2.ws, TL, hv0 + n, s2.al⟩, b2.drop n) from by
        unfold wstep
        simp only [HM.out, HHV.out]
        rw [← HMM.out, ← HN1.out, ← hTL, HHV.out])
      rw [hTL] at HH3
      have ch := HH3.out.have_
      have fh := HH3.out.1.frozen 72
      simp only [HHV.out] at ch
      clear hwu htk htk' hTL HH2 HB2 HC2 HS2
      have hsum : (hv0 : Int) + (n : Int) = ((hv0 + n : Nat) : Int) := by omega
      obtain ⟨n1, hn1⟩ : ∃ n1, n1 = M - n := ⟨_, rfl⟩
      obtain ⟨c1, hc1⟩ : ∃ c1, c1 = c2 - n := ⟨_, rfl⟩
      obtain ⟨B6, hB6⟩ : ∃ B6, B6 = if c2 = n then some ad else (some ad).map (·.add n) := ⟨_, rfl⟩
      have hsl2 := cut_b (some ad) M c2 n n1 c1 B6 hnM hn1 hc1 hB6
      have HS4 := Lib.hid (show Src k wu B6 (b2.drop n) from hB6 ▸ HS3.out.drop n c2 (by rw [HM.out]; exact hc2))
      have HDL := Lib.hid (show (b2.drop n).length = n1 from by rw [List.length_drop, HM.out, hn1])
      have hn1c : n1 ≤ c1 := by omega
      have hn1M : n1 < M := by omega
      clear hn1 hc1 hB6 hsum
      obtain ⟨hv1, hhv1⟩ : ∃ x, hv0 + n = x := ⟨_, rfl⟩
      have hvs : (hv0 : Int) + (n : Int) = (hv1 : Int) := by omega
      have hv1b : hv1 ≤ 64 := by omega
      rw [hhv1] at HST
      clear hhv1
      go_upto_region 5 with (fail)
      have HH4 := Lib.hid (show HashAt (wu.setCell ⟨k, 72, none⟩ (.int .i64 (hv1 : Int))) k ⟨s2.ws, TL, hv1, s2.al⟩ from HH3.out.setHave hv1)
      have HB4 := Lib.hid (HB3.out.set 72 (.int .i64 (hv1 : Int)))
      have HS5 := Lib.hid (HS4.out.but ((But.refl k wu).set 72 (.int .i64 (hv1 : Int))))
      obtain ⟨wx, hwx⟩ : ∃ wx, wu.setCell ⟨k, 72, none⟩ (.int .i64 (hv1 : Int)) = wx := ⟨_, rfl⟩
      rw [hwx] at HH4 HB4 HS5 ⊢
      have ch := HH4.out.have_
      simp only at ch
      have HRX := Lib.hid (show ∀ t, t < 64 → wx.cell? ⟨1, t, none⟩ = some (u (rk t)) from fun t ht => by
        have h9 := HRK.out t ht
        have h1k : 1 < w.heap.size := World.block_lt_of_cell? w _ h9
        have h10 : wx.heap[1]? = w.heap[1]? := HB4.out.block 1 h1k (fun e => hk1 e.symm)
        have h11 : wx.cell? ⟨1, t, none⟩ = w.cell? ⟨1, t, none⟩ := by unfold World.cell?; rw [h10]
        exact h11.trans h9)
      have HRN := Lib.hid (show run (fun _ => wstep rk) (i + 1) (s1, b) = wstep rk (s2, b2) from by rw [run_succ, HRUN.out])
      clear hwx hvs HH3 HB3 HS3 HS4 fh
      by_cases h64 : hv1 = 64
      · subst h64
        rw [if_pos rfl] at HST
        rw [show ((64 : Nat) : Int) = 64 from rfl] at ch ⊢
        have HMX := Lib.hid (mix_walk rk k _ wx HH4.out HRX.out hk1)
        go_upto_region 8 with (go_at_call 57; refine HMX.out.mono ?_; rintro e wy ⟨rfl, hhy, hby⟩; have HHY := Lib.hid hhy; have HBY := Lib.hid hby; clear hhy hby)
        have cy := HHY.out.have_
        have fy := HHY.out.1.frozen 72
        simp only at cy
        have HHZ := Lib.hid (HHY.out.setHave 0)
        have HBZ := Lib.hid (HB4.out.trans (HBY.out.set 72 (.int .i64 ((0 : Nat) : Int))))
        have HSZ := Lib.hid (HS5.out.but (HBY.out.set 72 (.int .i64 ((0 : Nat) : Int))))
        clear ch hsl2
        go_wp2_with fail
        go_roundw
        case rel => exact ⟨i + 1, ⟨mixf rk s2.ws TL, TL, 0, s2.al⟩, b2.drop n, B6, c1, by rw [HDL.out], by rw [HRN.out, HST.out], HHZ.out, (by show (0 : Nat) < 64; decide), HSZ.out, by rw [HDL.out]; exact hn1c, HBZ.out⟩
        all_goals (simp only [slen]; omega)
      · have h64' : ¬ (hv1 : Int) = 64 := by omega
        rw [if_neg h64] at HST
        clear h64
        go_wp2_with fail
        go_roundw
        case rel => exact ⟨i + 1, ⟨s2.ws, TL, hv1, s2.al⟩, b2.drop n, B6, c1, by rw [HDL.out], by rw [HRN.out, HST.out], HH4.out, by show hv1 < 64; omega, HS5.out, by rw [HDL.out]; exact hn1c, HB4.out⟩
        all_goals (simp only [slen]; omega)
    · have hM0 : M = 0 := by omega
      subst hM0
      have hb0 : b2 = [] := List.eq_nil_of_length_eq_zero HM.out
      subst hb0
      have HE := Lib.hid (show written rk { s with al := s.al + N } b = s2 from by rw [← HSE.out]; exact Ends.eq (⟨i, HRUN.out, hv2⟩ : Ends rk s1 b s2))
      go_wp2_with fail
      go_end0
      rw [HE.out]
      exact ⟨rfl, HHr.out, hv2, HBr.out⟩
end Go.Proofs.YtfbkkcigkpffiaaDoor.St

namespace Go.Proofs.YtfbkkcigkpffiaaDoor.St
open Go Go.Lib Go.RowKit Go.ChangeMaps Go.Proofs.YtfbkkcigkpffiaaDoorW.PrintWords Go.Proofs.YtfbkkcigkpffiaaDoorW.PrintLast Go.Proofs.YtfbkkcigkpffiaaDoorW.PrintMore Go.Proofs.YtfbkkcigkpffiaaDoor.PStoreMany
set_option linter.unusedVariables false
set_option linter.unusedSimpArgs false
/-- What the program's tables hold. -/
structure Tabs (bg : List Int) (rk : Nat → Int) (w : World) : Prop where
  lb : bg.length = 8
  b : ∀ t, t < 8 → w.cell? ⟨0, t, none⟩ = some (u (bg.getD t 0))
  r : ∀ t, t < 64 → w.cell? ⟨1, t, none⟩ = some (u (rk t))
theorem Tabs.below {bg : List Int} {rk : Nat → Int} {w w' : World} (h : Tabs bg rk w) (hb : Below w.heap.size w w') : Tabs bg rk w' := ⟨h.lb, fun t ht => pw_cell_below hb (h.b t ht), fun t ht => pw_cell_below hb (h.r t ht)⟩
theorem cell_but {k : Nat} {w w' : World} (hb : But k w w') {p : Addr} {v : Value} (h : w.cell? p = some v) (hk : p.block ≠ k) : w'.cell? p = some v := by
  have h1 := World.block_lt_of_cell? w p h
  have h2 := hb.block p.block h1 hk
  unfold World.cell? at h ⊢
  rw [h2]; exact h
def hs0 (bg : List Int) : Hs := ⟨bg, zeros64, 0, 0⟩
set_option maxRecDepth 100000 in
set_option maxHeartbeats 4000000 in
theorem new_walk (bg : List Int) (rk : Nat → Int) (w : World) (hT : Tabs bg rk w) :
    Calls Tryd.prog 42 #[] w fun e w' => ∃ k, e = .returned (.pointer (some ⟨k, 0, none⟩)) ∧ HashAt w' k (hs0 bg) ∧ w.heap.size ≤ k ∧ Below w.heap.size w w' := by
  obtain ⟨a0, a1, a2, a3, a4, a5, a6, a7, hbg⟩ := list8 hT.lb
  have h0 := hT.b 0 (by decide)
  have h1 := hT.b 1 (by decide)
  have h2 := hT.b 2 (by decide)
  have h3 := hT.b 3 (by decide)
  have h4 := hT.b 4 (by decide)
  have h5 := hT.b 5 (by decide)
  have h6 := hT.b 6 (by decide)
  have h7 := hT.b 7 (by decide)
  subst hbg
  simp only [List.getD_cons_zero, List.getD_cons_succ] at h0 h1 h2 h3 h4 h5 h6 h7
  have HN := Lib.hid (Blk.new w 112 (Hs.cells (hs0 [a0, a1, a2, a3, a4, a5, a6, a7])))
  have HB := Lib.hid (show Below w.heap.size w (w.alloc (.cells (Hs.cells (hs0 [a0, a1, a2, a3, a4, a5, a6, a7])).toArray 112)) from below_alloc (Below.refl _ _) _)
  clear hT
  go_enter Tryd.func42, Tryd.ntmps42
  go_wp2_with fail
  go_ret
  exact ⟨w.heap.size, rfl, ⟨HN.out, ⟨rfl, by simp [hs0]⟩⟩, Nat.le_refl _, HB.out⟩
/-! ### whole blocks loaded and stored -/
def sets (cs : List Value) (o : Nat) : List Value → List Value
  | [] => cs
  | v :: r => sets (cs.set o v) (o + 1) r
theorem Blk.setCells {k t : Nat} : ∀ (vs : List Value) (o : Nat) (w : World) (cs : List Value), Blk w k t cs → Blk (w.setCells k o vs) k t (sets cs o vs)
  | [], _, _, _, h => h
  | v :: r, o, w, cs, h => Blk.setCells r (o + 1) _ _ (h.set o v)
theorem sets_from : ∀ (vs p cs : List Value), p.length + vs.length = cs.length → cs.take p.length = p → sets cs p.length vs = p ++ vs
  | [], p, cs, hl, hp => by
    simp only [sets, List.append_nil]
    rw [← hp, List.take_of_length_le]
    simp at hl ⊢
    omega
  | v :: r, p, cs, hl, hp => by
    simp only [sets]
    have h := sets_from r (p ++ [v]) (cs.set p.length v) (by simp at hl ⊢; omega) (by
      rw [List.length_append]
      apply List.ext_getElem?
      intro j
      rw [List.getElem?_take]
      by_cases hj : j < p.length
      · rw [if_pos (by simp; omega), List.getElem?_set_ne (by omega), List.getElem?_append_left hj]
        have h9 : (cs.take p.length)[j]? = cs[j]? := by rw [List.getElem?_take, if_pos hj]
        rw [hp] at h9
        exact h9.symm
      · by_cases e : j = p.length
        · subst e
          rw [if_pos (by simp), List.getElem?_set_self (by simp at hl; omega), List.getElem?_append_right (Nat.le_refl _)]
          simp
        · rw [if_neg (by simp; omega), List.getElem?_eq_none (by simp; omega)])
    rw [List.length_append] at h
    rw [show p.length + 1 = p.length + [v].length from rfl, h]
    simp
theorem sets_all (vs cs : List Value) (h : vs.length = cs.length) : sets cs 0 vs = vs := by
  have := sets_from vs [] cs (by simpa using h) rfl
  simpa using this
theorem setCells_size (g : Nat) : ∀ (vs : List Value) (o : Nat) (w : World), (w.setCells g o vs).heap.size = w.heap.size
  | [], _, _ => rfl
  | v :: r, o, w => by rw [World.setCells, setCells_size g r]; simp [World.setCell]
theorem But.setCells {k : Nat} {a : World} : ∀ (vs : List Value) (o : Nat) (b : World), But k a b → But k a (b.setCells k o vs)
  | [], _, _, h => h
  | v :: r, o, b, h => But.setCells r (o + 1) _ (h.set o v)
theorem Blk.there {w : World} {k t : Nat} {cs : List Value} (h : Blk w k t cs) (o n : Nat) (hn : o + n ≤ cs.length) : w.there k o n := fun j hj => by
  refine ⟨?_, h.frozen _⟩
  rw [h.cell, List.getElem?_eq_getElem (by omega)]
  rfl
theorem Blk.loads {w : World} {k t : Nat} {cs : List Value} (h : Blk w k t cs) (ty : TypeId) (hagg : ∀ w, (isAgg ty).run Tryd.prog w = .ok true w) (hsz : ∀ w, (sizeOf ty).run Tryd.prog w = .ok cs.length w) : (Instr.loadAt ty (.pointer (some ⟨k, 0, none⟩))).run Tryd.prog w = .ok (.agg cs.toArray) w := by
  have hl := run_loadCells_list (P := Tryd.prog) w ⟨k, 0, none⟩ cs (fun j v hj => by rw [Addr.add_lit, Nat.zero_add, h.cell, hj])
  simp only [Instr.loadAt, Instr.sureAddr, Sem.run_bind, Sem.run_pure, Result.andThen_ok, loadVar, hagg, if_true, hsz, hl]
theorem wpList_ld {P : Program} {ops : Array Oper} {rest : List Oper} {o : Oper} {a : Act} {w : World} {Q : Exit → Act → World → Prop} (hgd : o.guard = none) (ty : TypeId) (x : Operand) (ho : o.op = .load ty x)
    (ad : Addr) (hx : a.eval x = .pointer (some ad)) (v : Value) (hl : (Instr.loadAt ty (.pointer (some ad))).run P w = .ok v w)
    (h : wpList P ops Q rest (a.put o.dst v) w) : wpList P ops Q (o :: rest) a w :=
  wpList_plain hgd fun _ hK => by
    unfold Oper.wp execOp
    simp only [ho, hx, Sem.run_bind, hl, Result.andThen_ok, Sem.run_pure]
    exact hK _ _ h
theorem Hs.one (s : Hs) : ∀ v ∈ s.cells, v.oneCell' = true := fun v hv => by
  unfold Hs.cells at hv
  rcases List.mem_append.1 hv with h | h
  · obtain ⟨x, _, rfl⟩ := List.mem_map.1 h; rfl
  · rcases List.mem_append.1 h with h | h
    · obtain ⟨x, _, rfl⟩ := List.mem_map.1 h; rfl
    · rcases List.mem_cons.1 h with rfl | h
      · rfl
      · rw [List.mem_singleton.1 h]; rfl
theorem Hs.len {s : Hs} (h : s.Ok) : s.cells.length = 74 := by simp [Hs.cells, h.ws, h.tl]
end Go.Proofs.YtfbkkcigkpffiaaDoor.St
