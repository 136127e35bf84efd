/- The walk of a hash's mix. -/
import Derived.Test.YtfbkkcigkpffiaaDoorSdA
import Derived.Test.YtfbkkcigkpffiaaDoorPStoreManyx1
import Derived.StillTailTactics
import Derived.IntWalk
import Derived.Laws.CopyOwn
namespace Go.Proofs.YtfbkkcigkpffiaaDoor.St
open Go Go.Lib Go.RowKit Go.ChangeMaps Go.Proofs.YtfbkkcigkpffiaaDoorW.PrintWords Go.Proofs.YtfbkkcigkpffiaaDoorW.PrintLast Go.Proofs.YtfbkkcigkpffiaaDoorW.PrintMore Go.Proofs.YtfbkkcigkpffiaaDoor.PStoreMany
set_option linter.unusedVariables false
set_option linter.unusedSimpArgs false
/-! ### a region that draws its order: one walk, over all worlds in which nothing that was there has changed -/
def Cls (w : World) : Type := { w' : World // Below w.heap.size w w' }
def Cls.at {w : World} (i : Cls w) : World := i.1
theorem Cls.below {w : World} (i : Cls w) : Below w.heap.size w i.at := i.2
theorem Cls.cell {w : World} (i : Cls w) {p : Addr} {v : Value} (h : w.cell? p = some v) : i.at.cell? p = some v := pw_cell_below i.below h
def Cls.mk' {w w' : World} (h : Below w.heap.size w w') : Cls w := ⟨w', h⟩
instance clsNonempty (w : World) : Nonempty (Cls w) := ⟨Cls.mk' (Below.refl _ _)⟩
theorem wp_region_cls {P : Program} {id : Nat} {Q : Exit → Act → World → Prop} {a : Act} {w : World} {l : List Oper} (hm : P.follows .mixedOrders = true) (hB : Region.lexB .any l.toArray = true)
    (h : wpQuiet P l.toArray (fun w' => ∃ i : Cls w, w' = i.at) (fun a' => ∀ w', (∃ i : Cls w, w' = i.at) → Q .normal a' w') l a) : (Code.region id l.toArray true).wp P Q a w :=
  wp_region_quiet (C := fun w' => ∃ i : Cls w, w' = i.at) hm hB ⟨Cls.mk' (pw_below_drewN (Below.refl _ _) 1), rfl⟩ (by simpa using h)
theorem cls_call {P : Program} {f : FuncId} {args : Array Value} {w : World} {i : Cls w} {v : Value} (h : Calls P f args i.at fun e w' => e = .returned v ∧ Below i.at.heap.size i.at w') :
    Calls P f args i.at fun e w'' => e = .returned v ∧ ∃ j : Cls w, w'' = j.at :=
  h.mono fun _ _ ⟨he, hb⟩ => ⟨he, Cls.mk' (i.below.trans (hb.mono i.below.size)), rfl⟩
/-! ### words -/
def turnv (x n : Int) : Int := Go.bits .or .u32 (shr .u32 x n) (shl .u32 x (32 - n))
theorem turn_walk (x n : Int) (h0 : 0 ≤ n) (h1 : n ≤ 32) (w : World) : Calls Tryd.prog 78 #[u x, .int .i64 n] w fun e w' => e = .returned (u (turnv x n)) ∧ Drawn0 w w' := by
  have h : digest_turn.f x n = some (turnv x n) := by
    unfold digest_turn.f
    have e : wrap64 (32 - n) = 32 - n := by unfold wrap64; omega
    rw [e, if_pos h0, if_pos (by omega)]
    rfl
  exact digest_turn.calls x n (turnv x n) w h
theorem turn_below (x n : Int) (h0 : 0 ≤ n) (h1 : n ≤ 32) (w : World) : Calls Tryd.prog 78 #[u x, .int .i64 n] w fun e w' => e = .returned (u (turnv x n)) ∧ Below w.heap.size w w' :=
  (turn_walk x n h0 h1 w).mono fun e w' ⟨h1, h2⟩ => ⟨h1, h2.below⟩
def word4 (x0 x1 x2 x3 : Int) : Int :=
  Go.bits .or .u32 (Go.bits .or .u32 (Go.bits .or .u32 (IntKind.u32.wrap (IntKind.u32.wrap x0 * 16777216)) (IntKind.u32.wrap (IntKind.u32.wrap x1 * 65536))) (IntKind.u32.wrap (IntKind.u32.wrap x2 * 256))) (IntKind.u32.wrap x3)
theorem word4_def (x0 x1 x2 x3 : Int) : word4 x0 x1 x2 x3 = Go.bits .or .u32 (Go.bits .or .u32 (Go.bits .or .u32 (IntKind.u32.wrap (IntKind.u32.wrap x0 * 16777216)) (IntKind.u32.wrap (IntKind.u32.wrap x1 * 65536))) (IntKind.u32.wrap (IntKind.u32.wrap x2 * 256))) (IntKind.u32.wrap x3) := rfl
/-- The first sixteen words of the table. -/
def tab1 (tl : List Int) (i : Nat) (L : List Int) : List Int := L.set i (word4 (tl.getD (4 * i) 0) (tl.getD (4 * i + 1) 0) (tl.getD (4 * i + 2) 0) (tl.getD (4 * i + 3) 0))
theorem run_len {f : Nat → List Int → List Int} {n : Nat} (h : ∀ i L, (f i L).length = L.length) (m : Nat) (L : List Int) (hl : L.length = n) : (run f m L).length = n :=
  run_keep (fun L => L.length = n) f (fun i s hs => (h i s).trans hs) m L hl
theorem tab1_len (tl : List Int) (i : Nat) (L : List Int) : (tab1 tl i L).length = L.length := by simp [tab1]
theorem Blk.word {w : World} {k t : Nat} {L : List Int} (h : Blk w k t (us L)) (i : Nat) (hi : i < L.length) : w.cell? ⟨k, i, none⟩ = some (u (L.getD i 0)) := by
  rw [h.cell, us_get, List.getD_eq_getElem?_getD, List.getElem?_eq_getElem hi]
  rfl
abbrev zeros64 : List Int := List.replicate 64 0
def s0v (x : Int) : Int := Go.bits .xor .u32 (Go.bits .xor .u32 (turnv x 7) (turnv x 18)) (x / 8)
def s1v (y : Int) : Int := Go.bits .xor .u32 (Go.bits .xor .u32 (turnv y 17) (turnv y 19)) (y / 1024)
theorem s0v_def (x : Int) : s0v x = Go.bits .xor .u32 (Go.bits .xor .u32 (turnv x 7) (turnv x 18)) (x / 8) := rfl
theorem s1v_def (y : Int) : s1v y = Go.bits .xor .u32 (Go.bits .xor .u32 (turnv y 17) (turnv y 19)) (y / 1024) := rfl
def nextw (S0 S1 a b : Int) : Int := IntKind.u32.wrap (IntKind.u32.wrap (IntKind.u32.wrap (S1 + a) + S0) + b)
theorem nextw_def (S0 S1 a b : Int) : nextw S0 S1 a b = IntKind.u32.wrap (IntKind.u32.wrap (IntKind.u32.wrap (S1 + a) + S0) + b) := rfl
/-- The other words of the table. -/
def tab2 (d : Nat) (L : List Int) : List Int := L.set (d + 16) (nextw (s0v (L.getD (d + 1) 0)) (s1v (L.getD (d + 14) 0)) (L.getD (d + 9) 0) (L.getD d 0))
theorem tab2_len (i : Nat) (L : List Int) : (tab2 i L).length = L.length := by simp [tab2]
/-- n rounds lead from s to t (n kept from being reckoned). -/
def IsRun {S : Type} (f : Nat → S → S) (n : Nat) (s t : S) : Prop := ∃ m, m = n ∧ run f m s = t
theorem IsRun.eq {S : Type} {f : Nat → S → S} {n : Nat} {s t : S} (h : IsRun f n s t) : run f n s = t := by
  obtain ⟨m, rfl, h⟩ := h
  exact h
theorem list8 {α : Type} {l : List α} (h : l.length = 8) : ∃ a0 a1 a2 a3 a4 a5 a6 a7, l = [a0, a1, a2, a3, a4, a5, a6, a7] := by
  match l, h with
  | [a0, a1, a2, a3, a4, a5, a6, a7], _ => exact ⟨a0, a1, a2, a3, a4, a5, a6, a7, rfl⟩
def pv (v4 v5 v6 v7 R W : Int) : Int :=
  ((v7 + Go.bits BinOp.xor IntKind.u32 (Go.bits BinOp.xor IntKind.u32 (turnv v4 6) (turnv v4 11)) (turnv v4 25) +
                      Go.bits BinOp.xor IntKind.u32 (Go.bits BinOp.and IntKind.u32 v4 v5)
                        (Go.bits BinOp.and IntKind.u32
                          (Go.bits BinOp.xor IntKind.u32 (if IntKind.u32.signed = true then -1 else IntKind.u32.max) v4)
                          v6) +
                    R) %
                  4294967296 +
                W) %
              4294967296
theorem pv_def (v4 v5 v6 v7 R W : Int) : pv v4 v5 v6 v7 R W =
  ((v7 + Go.bits BinOp.xor IntKind.u32 (Go.bits BinOp.xor IntKind.u32 (turnv v4 6) (turnv v4 11)) (turnv v4 25) +
                      Go.bits BinOp.xor IntKind.u32 (Go.bits BinOp.and IntKind.u32 v4 v5)
                        (Go.bits BinOp.and IntKind.u32
                          (Go.bits BinOp.xor IntKind.u32 (if IntKind.u32.signed = true then -1 else IntKind.u32.max) v4)
                          v6) +
                    R) %
                  4294967296 +
                W) %
              4294967296 := rfl
def qv (v0 v1 v2 : Int) : Int :=
  (Go.bits BinOp.xor IntKind.u32 (Go.bits BinOp.xor IntKind.u32 (turnv v0 2) (turnv v0 13)) (turnv v0 22) +
                Go.bits BinOp.xor IntKind.u32
                  (Go.bits BinOp.xor IntKind.u32 (Go.bits BinOp.and IntKind.u32 v0 v1) (Go.bits BinOp.and IntKind.u32 v0 v2))
                  (Go.bits BinOp.and IntKind.u32 v1 v2)) %
              4294967296
theorem qv_def (v0 v1 v2 : Int) : qv v0 v1 v2 =
  (Go.bits BinOp.xor IntKind.u32 (Go.bits BinOp.xor IntKind.u32 (turnv v0 2) (turnv v0 13)) (turnv v0 22) +
                Go.bits BinOp.xor IntKind.u32
                  (Go.bits BinOp.xor IntKind.u32 (Go.bits BinOp.and IntKind.u32 v0 v1) (Go.bits BinOp.and IntKind.u32 v0 v2))
                  (Go.bits BinOp.and IntKind.u32 v1 v2)) %
              4294967296 := rfl
/-- One round. -/
def rnd (rk : Nat → Int) (T : List Int) (t : Nat) (V : List Int) : List Int :=
  match V with
  | [v0, v1, v2, v3, v4, v5, v6, v7] => [(pv v4 v5 v6 v7 (rk t) (T.getD t 0) + qv v0 v1 v2) % 4294967296, v0, v1, v2, (v3 + pv v4 v5 v6 v7 (rk t) (T.getD t 0)) % 4294967296, v4, v5, v6]
  | _ => V
theorem rnd_len (rk : Nat → Int) (T : List Int) (t : Nat) (V : List Int) : (rnd rk T t V).length = V.length := by
  unfold rnd
  split <;> rfl
def addw (V : List Int) (i : Nat) (U : List Int) : List Int := U.set i ((U.getD i 0 + V.getD i 0) % 4294967296)
/-- What mix makes of the words, at a block. -/
def mixf (rk : Nat → Int) (ws tl : List Int) : List Int := run (addw (run (rnd rk (run tab2 48 (run (tab1 tl) 16 zeros64))) 64 ws)) 8 ws
theorem But.below_of {k B : Nat} {a b : World} (h : But k a b) (hB : B ≤ k) (hs : B ≤ a.heap.size) : Below B a b := ⟨h.os, h.tape, h.output, h.size, fun j hj => h.block j (by omega) (by omega)⟩
set_option maxRecDepth 100000 in
set_option maxHeartbeats 4000000 in
theorem mix_walk (rk : Nat → Int) (k : Nat) (s : Hs) (w : World) (h : HashAt w k s) (hrk : ∀ t, t < 64 → w.cell? ⟨1, t, none⟩ = some (u (rk t))) (hk1 : k ≠ 1) :
    Calls Tryd.prog 57 #[.pointer (some ⟨k, 0, none⟩), .pointer (some ⟨k, 8, none⟩)] w fun e w' => e = .returned (.tuple #[]) ∧ HashAt w' k { s with ws := mixf rk s.ws s.tl } ∧ But k w w' := by
  have HH := Lib.hid h
  obtain ⟨kt, hkt⟩ : ∃ kt, w.heap.size = kt := ⟨_, rfl⟩
  obtain ⟨w1, hw1⟩ : ∃ w1, w.alloc (.cells (us zeros64).toArray 137) = w1 := ⟨_, rfl⟩
  have HB1 := Lib.hid (show Below w.heap.size w w1 from hw1 ▸ below_alloc (Below.refl _ _) _)
  have HT1 := Lib.hid (show Blk w1 kt 137 (us zeros64) from hkt ▸ hw1 ▸ Blk.new w 137 (us zeros64))
  have HKT := Lib.hid hkt
  have HRK := Lib.hid hrk
  have HW1 := Lib.hid hw1
  have hkk : k < kt := hkt ▸ h.1.lt
  clear h hrk hw1
  go_enter Tryd.func57, Tryd.ntmps57
  go_wp2_with fail
  change Code.wp _ _ _ _ (w.alloc (.cells (us zeros64).toArray 137))
  rw [HW1.out]
  clear hkt
  go_loopw [18] (fun v18 wr => ∃ (i : Nat), i ≤ 16 ∧ v18 = .int .i64 i ∧ Blk wr kt 137 (us (run (tab1 s.tl) i zeros64)) ∧ But kt w1 wr) (fun v18 _ => 16 - (RowKit.intOf v18).toNat)
  case atStart => exact ⟨0, Nat.zero_le _, rfl, HT1.out, But.refl _ _⟩
  case round =>
    obtain ⟨i, hi, rfl, hb, hbut⟩ := hrel
    have HL := Lib.hid (run_len (n := 64) (tab1_len s.tl) i zeros64 (by decide))
    have HBT := Lib.hid hbut
    by_cases hlt : i < 16
    · have hh : HashAt wr k s := ⟨((HH.out.1.below HB1.out).but hbut (by omega)), HH.out.2⟩
      have c0 := hh.tail (4 * i) (by omega)
      have c1 := hh.tail (4 * i + 1) (by omega)
      have c2 := hh.tail (4 * i + 2) (by omega)
      have c3 := hh.tail (4 * i + 3) (by omega)
      have HST := Lib.hid (show run (tab1 s.tl) (i + 1) zeros64 = (run (tab1 s.tl) i zeros64).set i (word4 (s.tl.getD (4 * i) 0) (s.tl.getD (4 * i + 1) 0) (s.tl.getD (4 * i + 2) 0) (s.tl.getD (4 * i + 3) 0)) from rfl)
      obtain ⟨L, hL⟩ : ∃ L, run (tab1 s.tl) i zeros64 = L := ⟨_, rfl⟩
      rw [hL] at hb HL HST
      obtain ⟨x0, hx0⟩ : ∃ x, s.tl.getD (4 * i) 0 = x := ⟨_, rfl⟩
      obtain ⟨x1, hx1⟩ : ∃ x, s.tl.getD (4 * i + 1) 0 = x := ⟨_, rfl⟩
      obtain ⟨x2, hx2⟩ : ∃ x, s.tl.getD (4 * i + 2) 0 = x := ⟨_, rfl⟩
      obtain ⟨x3, hx3⟩ : ∃ x, s.tl.getD (4 * i + 3) 0 = x := ⟨_, rfl⟩
      rw [hx0] at c0 HST
      rw [hx1] at c1 HST
      rw [hx2] at c2 HST
      rw [hx3] at c3 HST
      obtain ⟨j, hj⟩ : ∃ j, 4 * i = j := ⟨_, rfl⟩
      rw [hj] at c0 c1 c2 c3
      have e0 : IntKind.i64.wrap (4 * (i : Int)) = (j : Int) := by rw [IntWalk.i64_in _ (by omega)]; omega
      have e1 : IntKind.i64.wrap ((j : Int) + 1) = (j : Int) + 1 := IntWalk.i64_in _ (by omega)
      have e2 : IntKind.i64.wrap ((j : Int) + 2) = (j : Int) + 2 := IntWalk.i64_in _ (by omega)
      have e3 : IntKind.i64.wrap ((j : Int) + 3) = (j : Int) + 3 := IntWalk.i64_in _ (by omega)
      have t1 : ((j : Int) + 1).toNat = j + 1 := by omega
      have t2 : ((j : Int) + 2).toNat = j + 2 := by omega
      have t3 : ((j : Int) + 3).toNat = j + 3 := by omega
      have q0 : (j : Int) < 64 := by omega
      have q1 : (j : Int) + 1 < 64 := by omega
      have q2 : (j : Int) + 2 < 64 := by omega
      have q3 : (j : Int) + 3 < 64 := by omega
      have p0 : (0 : Int) ≤ (j : Int) := by omega
      have p1 : (0 : Int) ≤ (j : Int) + 1 := by omega
      have p2 : (0 : Int) ≤ (j : Int) + 2 := by omega
      have p3 : (0 : Int) ≤ (j : Int) + 3 := by omega
      have pi : (0 : Int) ≤ (i : Int) := by omega
      have qi : (i : Int) < 64 := by omega
      have HBK := Lib.hid hb
      clear hj hx0 hx1 hx2 hx3 hL hh hb hbut
      go_upto_region 4 with (fail)
      go_still_tail 39, (by kernel_rfl)
      change wpList _ _ _ _ _ wr.drew
      have HBK2 := Lib.hid (show Blk wr.drew kt 137 (us L) from HBK.out)
      have hth : wr.drew.cell? ⟨kt, i, none⟩ = some (u (L.getD i 0)) := HBK2.out.word i (by rw [HL.out]; omega)
      have hfz : wr.drew.frozen? ⟨kt, i, none⟩ = false := HBK2.out.frozen i
      have HBT2 := Lib.hid (show But kt w1 wr.drew from HBT.out.trans (But.of_below (pw_below_drewN (Below.refl _ wr) 1)))
      obtain ⟨w2, hw2⟩ : ∃ w2, wr.drew = w2 := ⟨_, rfl⟩
      rw [hw2] at HBK2 hth hfz HBT2 ⊢
      rw [← word4_def x0 x1 x2 x3]
      clear hw2 c0 c1 c2 c3 e0 e1 e2 e3 t1 t2 t3 q0 q1 q2 q3 p0 p1 p2 p3
      go_wp2_with fail
      go_roundw
      case rel => exact ⟨i + 1, by omega, by go_num, by rw [HST.out, ← us_set]; exact HBK2.out.set i _, HBT2.out.set i _⟩
      all_goals (simp only [RowKit.intOf]; omega)
    · obtain rfl : i = 16 := by omega
      rw [show ((16 : Nat) : Int) = 16 from rfl]
      obtain ⟨L1, hL1⟩ : ∃ L1, run (tab1 s.tl) 16 zeros64 = L1 := ⟨_, rfl⟩
      rw [hL1] at hb HL
      have HB2 := Lib.hid hb
      have HTAB1 := Lib.hid (show IsRun (tab1 s.tl) 16 zeros64 L1 from ⟨16, rfl, hL1⟩)
      clear hL1 hb hbut
      go_wp2_with fail
      obtain ⟨wa, rfl⟩ : ∃ wa, wa = wr := ⟨_, rfl⟩
      go_loopw [6] (fun v6 wr => ∃ (i : Nat), 16 ≤ i ∧ i ≤ 64 ∧ v6 = .int .i64 i ∧ Blk wr kt 137 (us (run tab2 (i - 16) L1)) ∧ But kt w1 wr) (fun v6 _ => 64 - (RowKit.intOf v6).toNat)
      case atStart => exact ⟨16, by decide, by decide, rfl, HB2.out, HBT.out⟩
      case round =>
        obtain ⟨i, hi0, hi, rfl, hb, hbut⟩ := hrel
        have HL2 := Lib.hid (run_len (n := 64) tab2_len (i - 16) L1 HL.out)
        have HBT3 := Lib.hid hbut
        clear HBT HB2
        by_cases hlt : i < 64
        · obtain ⟨d, hd⟩ : ∃ d, i = d + 16 := ⟨i - 16, by omega⟩
          have HST := Lib.hid (show run tab2 (i + 1 - 16) L1 = tab2 (i - 16) (run tab2 (i - 16) L1) from by rw [show i + 1 - 16 = (i - 16) + 1 by omega]; rfl)
          rw [show i - 16 = d by omega] at hb HL2 HST
          obtain ⟨L, hL⟩ : ∃ L, run tab2 d L1 = L := ⟨_, rfl⟩
          rw [hL] at hb HL2 HST
          have HBK := Lib.hid hb
          have ca : ∀ q : Cls wr, q.at.cell? ⟨kt, d + 1, none⟩ = some (u (L.getD (d + 1) 0)) := fun q => q.cell (hb.word _ (by rw [HL2.out]; omega))
          have cb : ∀ q : Cls wr, q.at.cell? ⟨kt, d + 14, none⟩ = some (u (L.getD (d + 14) 0)) := fun q => q.cell (hb.word _ (by rw [HL2.out]; omega))
          obtain ⟨x, hx⟩ : ∃ x, L.getD (d + 1) 0 = x := ⟨_, rfl⟩
          obtain ⟨y, hy⟩ : ∃ y, L.getD (d + 14) 0 = y := ⟨_, rfl⟩
          rw [hx] at ca
          rw [hy] at cb
          have e1 : IntKind.i64.wrap ((i : Int) - 15) = (d : Int) + 1 := by rw [IntWalk.i64_in _ (by omega)]; omega
          have e2 : IntKind.i64.wrap ((i : Int) - 2) = (d : Int) + 14 := by rw [IntWalk.i64_in _ (by omega)]; omega
          have t1 : ((d : Int) + 1).toNat = d + 1 := by omega
          have t2 : ((d : Int) + 14).toNat = d + 14 := by omega
          have p1 : (0 : Int) ≤ (d : Int) + 1 := by omega
          have p2 : (0 : Int) ≤ (d : Int) + 14 := by omega
          have q1 : (d : Int) + 1 < 64 := by omega
          have q2 : (d : Int) + 14 < 64 := by omega
          have HX := Lib.hid hx
          have HY := Lib.hid hy
          have HD := Lib.hid hd
          have HLL := Lib.hid hL
          clear hx hy hd hL hb hbut
          go_upto_region 9 with (fail)
          refine wp_region_cls (by kernel_rfl) (by kernel_rfl) ?_
          repeat (first | go_big_quiet_skip | go_big_quiet_step (fail))
          refine wpQuiet_nil ?_
          rintro wy ⟨q, rfl⟩
          have HBK3 := Lib.hid (HBK.out.below q.below)
          have HBT4 := Lib.hid (HBT3.out.trans (But.of_below q.below))
          obtain ⟨wz, hwz⟩ : ∃ wz, q.at = wz := ⟨_, rfl⟩
          rw [hwz] at HBK3 HBT4 ⊢
          clear hwz q ca cb e1 e2 t1 t2 p1 p2 q1 q2
          have HZ := Lib.hid (Below.refl wz.heap.size wz)
          go_upto_region 12 with (go_at_call 78; refine (turn_below _ _ (by decide) (by decide) _).mono ?_; rintro e wt ⟨rfl, hbt⟩; have HZ := Lib.hid (HZ.out.trans (hbt.mono HZ.out.size)); clear hbt)
          rw [← s0v_def, ← s1v_def]
          obtain ⟨S0, hS0⟩ : ∃ S, s0v x = S := ⟨_, rfl⟩
          obtain ⟨S1, hS1⟩ : ∃ S, s1v y = S := ⟨_, rfl⟩
          rw [hS0, hS1]
          have HST2 := Lib.hid (show tab2 d L = L.set i (nextw S0 S1 (L.getD (d + 9) 0) (L.getD d 0)) from by rw [← hS0, ← hS1, ← HX.out, ← HY.out, HD.out]; rfl)
          have HBK4 := Lib.hid (HBK3.out.below HZ.out)
          have HBT5 := Lib.hid (HBT4.out.trans (But.of_below HZ.out))
          have hd := HD.out
          have e3 : IntKind.i64.wrap ((i : Int) - 7) = (d : Int) + 9 := by rw [IntWalk.i64_in _ (by omega)]; omega
          have e4 : IntKind.i64.wrap ((i : Int) - 16) = (d : Int) := by rw [IntWalk.i64_in _ (by omega)]; omega
          have t3 : ((d : Int) + 9).toNat = d + 9 := by omega
          have p3 : (0 : Int) ≤ (d : Int) + 9 := by omega
          have p4 : (0 : Int) ≤ (d : Int) := by omega
          have q3 : (d : Int) + 9 < 64 := by omega
          have q4 : (d : Int) < 64 := by omega
          have qi : (i : Int) < 64 := by omega
          have pi : (0 : Int) ≤ (i : Int) := by omega
          have cc : wt.cell? ⟨kt, d + 9, none⟩ = some (u (L.getD (d + 9) 0)) := HBK4.out.word _ (by rw [HL2.out]; omega)
          have cd : wt.cell? ⟨kt, d, none⟩ = some (u (L.getD d 0)) := HBK4.out.word _ (by rw [HL2.out]; omega)
          obtain ⟨A, hA⟩ : ∃ A, L.getD (d + 9) 0 = A := ⟨_, rfl⟩
          obtain ⟨B, hB⟩ : ∃ B, L.getD d 0 = B := ⟨_, rfl⟩
          rw [hA] at cc HST2
          rw [hB] at cd HST2
          clear hS0 hS1 hd hA hB HBK3 HBT4 HZ
          go_still_tail 15, (by kernel_rfl)
          change wpList _ _ _ _ _ wt.drew
          have HBK5 := Lib.hid (show Blk wt.drew kt 137 (us L) from HBK4.out)
          have hth : wt.drew.cell? ⟨kt, i, none⟩ = some (u (L.getD i 0)) := HBK5.out.word i (by rw [HL2.out]; omega)
          have hfz : wt.drew.frozen? ⟨kt, i, none⟩ = false := HBK5.out.frozen i
          have HBT6 := Lib.hid (show But kt w1 wt.drew from HBT5.out.trans (But.of_below (pw_below_drewN (Below.refl _ wt) 1)))
          obtain ⟨wv, hwv⟩ : ∃ wv, wt.drew = wv := ⟨_, rfl⟩
          rw [hwv] at HBK5 hth hfz HBT6 ⊢
          rw [← nextw_def S0 S1 A B]
          clear hwv cc cd e3 e4 t3 p3 p4 q3 q4
          go_wp2_with fail
          go_roundw
          case rel => exact ⟨i + 1, by omega, by omega, by go_num, by rw [HST.out, HST2.out, ← us_set]; exact HBK5.out.set i _, HBT6.out.set i _⟩
          all_goals (simp only [RowKit.intOf]; omega)
        · obtain rfl : i = 64 := by omega
          rw [show ((64 : Nat) : Int) = 64 from rfl]
          rw [show (64 : Nat) - 16 = 48 from rfl] at hb HL2
          obtain ⟨T, hT⟩ : ∃ T, run tab2 48 L1 = T := ⟨_, rfl⟩
          rw [hT] at hb HL2
          have HTT := Lib.hid (show IsRun tab2 48 L1 T from ⟨48, rfl, hT⟩)
          have HBT7 := Lib.hid hb
          obtain ⟨wb, rfl⟩ : ∃ wb, wb = wr := ⟨_, rfl⟩
          clear hT hb hbut
          have HK := Lib.hid (show HashAt wb k s from ⟨(HH.out.1.below HB1.out).but HBT3.out (by omega), HH.out.2⟩)
          have hw8 := HK.out.2.ws
          obtain ⟨ws, tl, hv, al⟩ := s
          obtain ⟨a0, a1, a2, a3, a4, a5, a6, a7, hws⟩ := list8 hw8
          simp only at hws hw8
          subst hws
          have h0 := HK.out.word 0 (by decide)
          have h1 := HK.out.word 1 (by decide)
          have h2 := HK.out.word 2 (by decide)
          have h3 := HK.out.word 3 (by decide)
          have h4 := HK.out.word 4 (by decide)
          have h5 := HK.out.word 5 (by decide)
          have h6 := HK.out.word 6 (by decide)
          have h7 := HK.out.word 7 (by decide)
          simp only [List.getD_cons_zero, List.getD_cons_succ] at h0 h1 h2 h3 h4 h5 h6 h7
          go_wp2_with fail
          clear h0 h1 h2 h3 h4 h5 h6 h7 hw8
          change Code.wp _ _ _ _ (wb.alloc (.cells (us [a0, a1, a2, a3, a4, a5, a6, a7]).toArray 109))
          obtain ⟨kv, hkv⟩ : ∃ kv, wb.heap.size = kv := ⟨_, rfl⟩
          obtain ⟨wd, hwd⟩ : ∃ wd, wb.alloc (.cells (us [a0, a1, a2, a3, a4, a5, a6, a7]).toArray 109) = wd := ⟨_, rfl⟩
          have HWD := Lib.hid (show wd.heap.size = kv + 1 from by rw [← hwd, ← hkv]; simp)
          have HBV := Lib.hid (show Blk wd kv 109 (us [a0, a1, a2, a3, a4, a5, a6, a7]) from hkv ▸ hwd ▸ Blk.new wb 109 _)
          have HB3 := Lib.hid (show Below wb.heap.size wb wd from hwd ▸ below_alloc (Below.refl _ _) _)
          have hktv : kt < kv := hkv ▸ HBT7.out.lt
          have HTD := Lib.hid (HBT7.out.below HB3.out)
          have HKD := Lib.hid (show HashAt wd k _ from ⟨HK.out.1.below HB3.out, HK.out.2⟩)
          have HRD := Lib.hid (fun t (ht : t < 64) => (show wd.cell? ⟨1, t, none⟩ = some (u (rk t)) from by
            have h9 := pw_cell_below HB1.out (HRK.out t ht)
            have h1k : 1 < w.heap.size := World.block_lt_of_cell? w _ (HRK.out t ht)
            have h10 : wb.heap[1]? = w1.heap[1]? := HBT3.out.block 1 (Nat.lt_of_lt_of_le h1k HB1.out.size) (by have := HKT.out; omega)
            have h11 : wb.cell? ⟨1, t, none⟩ = w1.cell? ⟨1, t, none⟩ := by unfold World.cell?; rw [h10]
            exact pw_cell_below HB3.out (h11.trans h9)))
          rw [hwd, hkv]
          have HKV := Lib.hid hkv
          clear hwd hkv
          go_loopw [108] (fun v108 wr => ∃ (i : Nat), i ≤ 64 ∧ v108 = .int .i64 i ∧ Blk wr kv 109 (us (run (rnd rk T) i [a0, a1, a2, a3, a4, a5, a6, a7])) ∧ But kv wd wr) (fun v108 _ => 64 - (RowKit.intOf v108).toNat)
          case atStart => exact ⟨0, Nat.zero_le _, rfl, HBV.out, But.refl _ _⟩
          case round =>
            obtain ⟨i, hi, rfl, hb, hbut⟩ := hrel
            have HV := Lib.hid (run_len (n := 8) (rnd_len rk T) i [a0, a1, a2, a3, a4, a5, a6, a7] rfl)
            have HBD := Lib.hid hbut
            by_cases hlt : i < 64
            · have HST := Lib.hid (show run (rnd rk T) (i + 1) [a0, a1, a2, a3, a4, a5, a6, a7] = rnd rk T i (run (rnd rk T) i [a0, a1, a2, a3, a4, a5, a6, a7]) from rfl)
              obtain ⟨V, hV⟩ : ∃ V, run (rnd rk T) i [a0, a1, a2, a3, a4, a5, a6, a7] = V := ⟨_, rfl⟩
              rw [hV] at hb HV HST
              obtain ⟨v0, v1, v2, v3, v4, v5, v6, v7, rfl⟩ := list8 HV.out
              have HBK := Lib.hid hb
              have c0 : ∀ q : Cls wr, q.at.cell? ⟨kv, 0, none⟩ = some (u v0) := fun q => q.cell (hb.word 0 (by decide : 0 < 8))
              have c1 : ∀ q : Cls wr, q.at.cell? ⟨kv, 1, none⟩ = some (u v1) := fun q => q.cell (hb.word 1 (by decide : 1 < 8))
              have c2 : ∀ q : Cls wr, q.at.cell? ⟨kv, 2, none⟩ = some (u v2) := fun q => q.cell (hb.word 2 (by decide : 2 < 8))
              have c4 : ∀ q : Cls wr, q.at.cell? ⟨kv, 4, none⟩ = some (u v4) := fun q => q.cell (hb.word 4 (by decide : 4 < 8))
              have c5 : ∀ q : Cls wr, q.at.cell? ⟨kv, 5, none⟩ = some (u v5) := fun q => q.cell (hb.word 5 (by decide : 5 < 8))
              have c6 : ∀ q : Cls wr, q.at.cell? ⟨kv, 6, none⟩ = some (u v6) := fun q => q.cell (hb.word 6 (by decide : 6 < 8))
              have c7 : ∀ q : Cls wr, q.at.cell? ⟨kv, 7, none⟩ = some (u v7) := fun q => q.cell (hb.word 7 (by decide : 7 < 8))
              clear hV hb hbut
              go_upto_region 17 with (fail)
              refine wp_region_cls (by kernel_rfl) (by kernel_rfl) ?_
              repeat (first | go_big_quiet_skip | go_big_quiet_step (fail))
              refine wpQuiet_nil ?_
              rintro wy ⟨q, rfl⟩
              have HBKz := Lib.hid (HBK.out.below q.below)
              have HBDz := Lib.hid (HBD.out.trans (But.of_below q.below))
              obtain ⟨wz, hwz⟩ : ∃ wz, q.at = wz := ⟨_, rfl⟩
              rw [hwz] at HBKz HBDz ⊢
              clear hwz q c0 c1 c2 c4 c5 c6 c7 HBK HBD
              have HTz := Lib.hid (HTD.out.but HBDz.out (by omega))
              have HRz := Lib.hid (show wz.cell? ⟨1, i, none⟩ = some (u (rk i)) from by
                have h9 := HRD.out i hlt
                have h1k : 1 < wd.heap.size := World.block_lt_of_cell? wd _ h9
                have h10 : wz.heap[1]? = wd.heap[1]? := HBDz.out.block 1 h1k (by have := World.block_lt_of_cell? w _ (HRK.out i hlt); have := HKT.out; omega)
                have h11 : wz.cell? ⟨1, i, none⟩ = wd.cell? ⟨1, i, none⟩ := by unfold World.cell?; rw [h10]
                exact h11.trans h9)
              have c5 : ∀ q : Cls wz, q.at.cell? ⟨kv, 5, none⟩ = some (u v5) := fun q => q.cell (HBKz.out.word 5 (by decide : 5 < 8))
              have c6 : ∀ q : Cls wz, q.at.cell? ⟨kv, 6, none⟩ = some (u v6) := fun q => q.cell (HBKz.out.word 6 (by decide : 6 < 8))
              have c7 : ∀ q : Cls wz, q.at.cell? ⟨kv, 7, none⟩ = some (u v7) := fun q => q.cell (HBKz.out.word 7 (by decide : 7 < 8))
              have cr : ∀ q : Cls wz, q.at.cell? ⟨1, i, none⟩ = some (u (rk i)) := fun q => q.cell HRz.out
              have ct : ∀ q : Cls wz, q.at.cell? ⟨kt, i, none⟩ = some (u (T.getD i 0)) := fun q => q.cell (HTz.out.word i (by rw [HL2.out]; exact hlt))
              obtain ⟨R, hR⟩ : ∃ R, rk i = R := ⟨_, rfl⟩
              obtain ⟨W, hW⟩ : ∃ W, T.getD i 0 = W := ⟨_, rfl⟩
              rw [hR] at cr
              rw [hW] at ct
              have HRR := Lib.hid hR
              have HWW := Lib.hid hW
              have pi : (0 : Int) ≤ (i : Int) := by omega
              have qi : (i : Int) < 64 := by omega
              clear hR hW
              go_upto_region 18 with (fail)
              refine wp_region_cls (by kernel_rfl) (by kernel_rfl) ?_
              repeat (first | go_big_quiet_skip | go_big_quiet_step (refine cls_call (turn_below _ _ (by decide) (by decide) _)))
              refine wpQuiet_nil ?_
              rintro wy ⟨q, rfl⟩
              have HBKy := Lib.hid (HBKz.out.below q.below)
              have HBDy := Lib.hid (HBDz.out.trans (But.of_below q.below))
              obtain ⟨wy, hwy⟩ : ∃ wy, q.at = wy := ⟨_, rfl⟩
              rw [hwy] at HBKy HBDy ⊢
              clear hwy q c5 c6 c7 cr ct HBKz HBDz HTz HRz
              have c1 : ∀ q : Cls wy, q.at.cell? ⟨kv, 1, none⟩ = some (u v1) := fun q => q.cell (HBKy.out.word 1 (by decide : 1 < 8))
              have c2 : ∀ q : Cls wy, q.at.cell? ⟨kv, 2, none⟩ = some (u v2) := fun q => q.cell (HBKy.out.word 2 (by decide : 2 < 8))
              go_upto_region 19 with (fail)
              refine wp_region_cls (by kernel_rfl) (by kernel_rfl) ?_
              repeat (first | go_big_quiet_skip | go_big_quiet_step (refine cls_call (turn_below _ _ (by decide) (by decide) _)))
              refine wpQuiet_nil ?_
              rintro wx ⟨q, rfl⟩
              have HBKx := Lib.hid (HBKy.out.below q.below)
              have HBDx := Lib.hid (HBDy.out.trans (But.of_below q.below))
              obtain ⟨wx, hwx⟩ : ∃ wx, q.at = wx := ⟨_, rfl⟩
              rw [hwx] at HBKx HBDx ⊢
              clear hwx q c1 c2 HBKy HBDy
              go_upto_region 20 with (fail)
              rw [← pv_def, ← qv_def]
              have HNEW := Lib.hid (show rnd rk T i [v0, v1, v2, v3, v4, v5, v6, v7] = [(pv v4 v5 v6 v7 R W + qv v0 v1 v2) % 4294967296, v0, v1, v2, (v3 + pv v4 v5 v6 v7 R W) % 4294967296, v4, v5, v6] from by rw [← HRR.out, ← HWW.out]; rfl)
              obtain ⟨p, hp⟩ : ∃ p, pv v4 v5 v6 v7 R W = p := ⟨_, rfl⟩
              obtain ⟨q, hq⟩ : ∃ q, qv v0 v1 v2 = q := ⟨_, rfl⟩
              rw [hp, hq] at HNEW ⊢
              clear hp hq
              have hkvx : kv < wx.heap.size := HBKx.out.lt
              go_still_tail 2, (by kernel_rfl)
              change wpList _ _ _ _ _ wx.drew
              have HBK6 := Lib.hid (show Blk wx.drew kv 109 (us [v0, v1, v2, v3, v4, v5, v6, v7]) from HBKx.out)
              have HBD6 := Lib.hid (show But kv wd wx.drew from HBDx.out.trans (But.of_below (pw_below_drewN (Below.refl _ wx) 1)))
              obtain ⟨wv, hwv⟩ : ∃ wv, wx.drew = wv := ⟨_, rfl⟩
              rw [hwv] at HBK6 HBD6 ⊢
              clear hwv
              refine wpList_copy_splice rfl (.tmp 169) (.tmp 170) 139 139 rfl 108 Tryd.underlying139 (by kernel_rfl) (some ⟨kv, 1, none⟩) (some ⟨kv, 0, none⟩) 7 7 7 8 rfl rfl kv 1 (us [v0, v1, v2, v3, v4, v5, v6, v7]) 109 HBK6.out (us [v0, v1, v2, v3, v4, v5, v6]) rfl (fun _ => ⟨rfl, _, rfl, fun j v hj => ?_⟩) (by simp) (fun v hv => ?_) kv wv (Below.refl _ _) (Nat.le_refl _) ?_
              · have hj7 : j < 7 := (List.getElem?_eq_some_iff.1 hj).1
                rw [Addr.add_lit, Nat.zero_add, HBK6.out.cell, ← hj]
                show ([u v0, u v1, u v2, u v3, u v4, u v5, u v6] ++ [u v7])[j]? = [u v0, u v1, u v2, u v3, u v4, u v5, u v6][j]?
                rw [List.getElem?_append_left (by simpa using hj7)]
              · obtain ⟨z, _, rfl⟩ := List.mem_map.1 hv
                rfl
              intro wu hgu hbu
              have HBK7 := Lib.hid (show Blk wu kv 109 (us [v0, v0, v1, v2, v3, v4, v5, v6]) from hgu.out)
              have HBD7 := Lib.hid (show But kv wd wu from ⟨hbu.os.trans HBD6.out.os, hbu.tape.trans HBD6.out.tape, hbu.output.trans HBD6.out.output, Nat.le_trans HBD6.out.size hbu.size, fun j hj hne => (hbu.block j (by have := HWD.out; omega)).trans (HBD6.out.block j hj hne)⟩)
              clear hgu hbu HBK6 HBD6
              have d4 : wu.cell? ⟨kv, 4, none⟩ = some (u v3) := HBK7.out.word 4 (by decide : 4 < 8)
              have d0 : wu.cell? ⟨kv, 0, none⟩ = some (u v0) := HBK7.out.word 0 (by decide : 0 < 8)
              have f4 : wu.frozen? ⟨kv, 4, none⟩ = false := HBK7.out.frozen 4
              have f0 : wu.frozen? ⟨kv, 0, none⟩ = false := HBK7.out.frozen 0
              go_wp2_with fail
              go_roundw
              case rel =>
                refine ⟨i + 1, by omega, by go_num, ?_, (HBD7.out.set 4 _).set 0 _⟩
                rw [HST.out, HNEW.out]
                have h9 := (HBK7.out.set 4 (u ((v3 + p) % 4294967296))).set 0 (u ((p + q) % 4294967296))
                exact h9
              all_goals (simp only [RowKit.intOf]; omega)
            · obtain rfl : i = 64 := by omega
              rw [show ((64 : Nat) : Int) = 64 from rfl]
              obtain ⟨V, hV⟩ : ∃ V, run (rnd rk T) 64 [a0, a1, a2, a3, a4, a5, a6, a7] = V := ⟨_, rfl⟩
              rw [hV] at hb HV
              have HVV := Lib.hid (show IsRun (rnd rk T) 64 [a0, a1, a2, a3, a4, a5, a6, a7] V from ⟨64, rfl, hV⟩)
              have HBV2 := Lib.hid hb
              obtain ⟨we, rfl⟩ : ∃ we, we = wr := ⟨_, rfl⟩
              have HBWE := Lib.hid hbut
              have HKE := Lib.hid (show HashAt we k _ from ⟨HKD.out.1.but hbut (by omega), HKD.out.2⟩)
              clear hV hb hbut
              go_wp2_with fail
              go_loopw [182] (fun v182 wr => ∃ (i : Nat), i ≤ 8 ∧ v182 = .int .i64 i ∧ HashAt wr k ⟨run (addw V) i [a0, a1, a2, a3, a4, a5, a6, a7], tl, hv, al⟩ ∧ But k we wr) (fun v182 _ => 8 - (RowKit.intOf v182).toNat)
              case atStart => exact ⟨0, Nat.zero_le _, rfl, HKE.out, But.refl _ _⟩
              case round =>
                obtain ⟨i, hi, rfl, hh, hbut⟩ := hrel
                have HHr := Lib.hid hh
                have HBU := Lib.hid hbut
                by_cases hlt : i < 8
                · have hw1 := hh.word i hlt
                  have hw2 := (HBV2.out.but hbut (by omega)).word i (by rw [HV.out]; exact hlt)
                  have hf := hh.1.frozen i
                  have HST := Lib.hid (show run (addw V) (i + 1) [a0, a1, a2, a3, a4, a5, a6, a7] = addw V i (run (addw V) i [a0, a1, a2, a3, a4, a5, a6, a7]) from rfl)
                  obtain ⟨U, hU⟩ : ∃ U, run (addw V) i [a0, a1, a2, a3, a4, a5, a6, a7] = U := ⟨_, rfl⟩
                  simp only [hU] at hw1 HST HHr
                  obtain ⟨x, hx⟩ : ∃ x, U.getD i 0 = x := ⟨_, rfl⟩
                  obtain ⟨y, hy⟩ : ∃ y, V.getD i 0 = y := ⟨_, rfl⟩
                  rw [hx] at hw1
                  rw [hy] at hw2
                  have HXY := Lib.hid (show addw V i U = U.set i ((x + y) % 4294967296) from by rw [← hx, ← hy]; rfl)
                  have pi : (0 : Int) ≤ (i : Int) := by omega
                  have qi : (i : Int) < 8 := by omega
                  clear hU hx hy hh hbut
                  go_upto_region 27 with (fail)
                  go_still_tail 12, (by kernel_rfl)
                  change wpList _ _ _ _ _ wr.drew
                  have HH2 := Lib.hid (show HashAt wr.drew k ⟨U, tl, hv, al⟩ from HHr.out)
                  have HB2 := Lib.hid (show But k we wr.drew from HBU.out.trans (But.of_below (pw_below_drewN (Below.refl _ wr) 1)))
                  have e1 : wr.drew.cell? ⟨k, i, none⟩ = some (u x) := hw1
                  have e2 : wr.drew.frozen? ⟨k, i, none⟩ = false := hf
                  obtain ⟨wv, hwv⟩ : ∃ wv, wr.drew = wv := ⟨_, rfl⟩
                  rw [hwv] at HH2 HB2 e1 e2 ⊢
                  clear hwv hw1 hw2 hf
                  go_wp2_with fail
                  go_roundw
                  case rel =>
                    refine ⟨i + 1, by omega, by go_num, ?_, HB2.out.set i _⟩
                    rw [HST.out, HXY.out]
                    exact HH2.out.setWord i hlt _
                  all_goals (simp only [RowKit.intOf]; omega)
                · obtain rfl : i = 8 := by omega
                  have HFIN := Lib.hid (show HashAt wr k ⟨mixf rk [a0, a1, a2, a3, a4, a5, a6, a7] tl, tl, hv, al⟩ from by
                    have h9 := HHr.out
                    rw [← HVV.out.eq, ← HTT.out.eq, ← HTAB1.out.eq] at h9
                    exact h9)
                  have HBF := Lib.hid (show But k w wr from (But.of_below (show Below w.heap.size w we from by
                    have b1 := HB1.out
                    have b2 : Below w.heap.size w1 wb := (HBT3.out.below_of (by have := HKT.out; omega) b1.size)
                    have b3 := HB3.out
                    have b4 : Below w.heap.size wd we := (HBWE.out.below_of (by have := HKV.out; have := HKT.out; have := b1.size; have := b2.size; omega) (by have := b1.size; have := b2.size; have := b3.size; omega))
                    exact ((b1.trans b2).trans (b3.mono (by have := b1.size; have := b2.size; omega))).trans b4)).trans HBU.out)
                  go_wp2_with fail
                  go_end0
                  exact ⟨rfl, HFIN.out, HBF.out⟩
end Go.Proofs.YtfbkkcigkpffiaaDoor.St
