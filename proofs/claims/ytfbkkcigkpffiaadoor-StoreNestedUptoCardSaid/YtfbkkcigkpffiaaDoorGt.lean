/- The walk of StoreMany. -/
import Derived.Test.YtfbkkcigkpffiaaDoorGr
import Derived.Test.YtfbkkcigkpffiaaDoorGs
import Derived.Test.YtfbkkcigkpffiaaDoorPStoreManyx1
namespace Go.Proofs.YtfbkkcigkpffiaaDoor.St
open Go Go.Lib Go.RowKit Go.ChangeMaps Go.Proofs.YtfbkkcigkpffiaaDoorW.PrintWords Go.Proofs.YtfbkkcigkpffiaaDoorW.PrintLast Go.Proofs.YtfbkkcigkpffiaaDoorW.PrintMore Go.Proofs.YtfbkkcigkpffiaaDoor.PStoreMany
set_option linter.unusedVariables false
set_option linter.unusedSimpArgs false
theorem into_any (n : Int) (M : Nat) (h0 : 0 < M) (h1 : M ≤ 1000000000000) : ∃ m : Nat, m < M ∧ satchellaw4_into.f n M = some (m : Int) := by
  unfold satchellaw4_into.f
  rw [if_neg (by omega)]
  have h1 : -(M : Int) < Int.tmod n M ∧ Int.tmod n M < M := by
    constructor
    · have := Int.lt_tmod_of_pos n (b := (M : Int)) (by omega)
      omega
    · exact Int.tmod_lt_of_pos n (by omega)
  by_cases h : Int.tmod n M < 0
  · rw [if_pos h]
    refine ⟨(Int.tmod n M + M).toNat, by omega, ?_⟩
    congr 1
    rw [show wrap64 (Int.tmod n M + M) = Int.tmod n M + M from by unfold wrap64; omega]
    omega
  · rw [if_neg h]
    exact ⟨(Int.tmod n M).toNat, by omega, by congr 1; omega⟩
theorem Same.imp_mem {w w' : World} : ∀ {kv : KV} {its : Its}, (∀ x ∈ kv, ∀ b, IsB w x.2 b → IsB w' x.2 b) → Same w kv its → Same w' kv its
  | [], [], _, _ => trivial
  | (a, v) :: r, (d, b) :: s, hB, h => ⟨h.1, hB _ List.mem_cons_self _ h.2.1, h.2.2.imp_mem (fun x hx => hB x (List.mem_cons_of_mem _ hx))⟩
  | [], _ :: _, _, h => h.elim
  | _ :: _, [], _, h => h.elim
/-- No bytes of the map's values lie in block b. -/
def Clear (w : World) (km b : Nat) : Prop := ∃ kv, IMap w km kv ∧ ∀ x ∈ kv, ∀ ad n c, x.2 = .slice (some ad) n c → 0 < n → ad.block ≠ b
/-- A store that has nothing in block b. -/
structure Far (b : Nat) (w : World) (ks km : Nat) (its : Its) : Prop where
  st : StoreAt w ks km its
  nks : ks ≠ b
  nkm : km ≠ b
  own : Clear w km b
theorem Far.but {b : Nat} {w w' : World} {ks km : Nat} {its : Its} (h : Far b w ks km its) (hb : But b w w') : Far b w' ks km its := by
  obtain ⟨kv, hm, hc⟩ := h.own
  obtain ⟨kv', hm', hs⟩ := h.st.map
  obtain rfl := IMap.unique hm hm'
  have hm2 : IMap w' km kv := hm.of_block (hb.block km hm.lt h.nkm)
  refine ⟨⟨h.st.blk.but hb h.nks, kv, hm2, hs.imp_mem (fun x hx b' hB => ?_)⟩, h.nks, h.nkm, kv, hm2, hc⟩
  obtain ⟨A, c, h1, h2, h3⟩ := hB
  refine ⟨A, c, h1, h2, h3.1, h3.2.1, fun hp => ?_⟩
  obtain ⟨ad, ha, hcell⟩ := h3.2.2 hp
  refine ⟨ad, ha, fun j y hj => ?_⟩
  obtain ⟨cs, g1, g2, g3⟩ := hcell j y hj
  exact ⟨cs, g1, g2, fun i u hv => cell_but hb (g3 i u hv) (by
    rw [add_block]
    exact hc x hx ad _ c (by rw [h1, ha]) hp)⟩
theorem Clear.of_block {w w' : World} {km b : Nat} (h : Clear w km b) (e : w'.heap[km]? = w.heap[km]?) : Clear w' km b := by
  obtain ⟨kv, h1, h2⟩ := h
  exact ⟨kv, h1.of_block e, h2⟩
theorem Far.below {b : Nat} {w w' : World} {ks km : Nat} {its : Its} (h : Far b w ks km its) (hb : Below w.heap.size w w') : Far b w' ks km its :=
  h.but (But.of_below hb)
theorem Far.other {b : Nat} {w w' : World} {ks km km' : Nat} {its : Its} {kv' : KV} (h : Far b w ks km its) (hm : IMap w km' kv') (hne : km ≠ km') (hb : But km' w w') : Far b w' ks km its :=
  ⟨h.st.other hm hne hb, h.nks, h.nkm, h.own.of_block (by
    obtain ⟨kv, h1, _⟩ := h.own
    exact hb.block km h1.lt hne)⟩
theorem Same.val {w : World} : ∀ {kv : KV} {its : Its}, Same w kv its → ∀ x ∈ kv, ∃ b, IsB w x.2 b
  | [], [], _, x, hx => by cases hx
  | (a, v) :: r, (d, b) :: s, h, x, hx => by
    rcases List.mem_cons.1 hx with rfl | hx
    · exact ⟨b, h.2.1⟩
    · exact h.2.2.val x hx
  | [], _ :: _, h, _, _ => h.elim
  | _ :: _, [], h, _, _ => h.elim
/-- A block that is not yet there. -/
theorem Far.fresh {b : Nat} {w : World} {ks km : Nat} {its : Its} (h : StoreAt w ks km its) (hb : w.heap.size ≤ b) : Far b w ks km its := by
  obtain ⟨kv, hm, hs⟩ := h.map
  refine ⟨h, by have := h.blk.lt; omega, by have := hm.lt; omega, kv, hm, fun x hx ad n c hv hn => ?_⟩
  obtain ⟨b', A, c', h1, h2, h3⟩ := hs.val x hx
  rw [hv] at h1
  injection h1 with e1 e2 e3
  obtain ⟨ad', ha, hcell⟩ := h3.2.2 (by omega)
  rw [← e1] at ha
  injection ha with ha
  subst ha
  obtain ⟨cs, g1, g2, g3⟩ := hcell 0 _ (List.getElem?_eq_getElem (show 0 < b'.length by omega))
  have g2' : cs = [b8 _] := g2
  have := World.block_lt_of_cell? w _ (g3 0 _ (by rw [g2']; rfl))
  rw [add_block] at this
  omega
theorem Far.of_owned {b : Nat} {w : World} {ks km : Nat} {its : Its} (h : StoreAt w ks km its) (h1 : ks ≠ b) (h2 : km ≠ b) (ho : Owned w km (· ≠ b)) : Far b w ks km its := by
  obtain ⟨kv, hm, hc⟩ := ho
  exact ⟨h, h1, h2, kv, hm, fun x hx ad n c hv _ => hc x hx ad.block (by rw [hv]; rfl)⟩
/-- Pointers. -/
def kP : Kd Nat := Kd.scalar (fun k => Value.pointer (some ⟨k, 0, none⟩)) (fun _ => rfl)
theorem info25 : (Tryd.prog.info? 25).map (fun i => (i.zero, i.size, i.bytes)) = some (some (.pointer none), kP.sz, 8) := by kernel_rfl
def encM (sd : Int) (j : Nat) : List Int := [1, 99, sd, (j : Int)]
/-- The stores that have been made. -/
structure Crowd (bg : List Int) (rk : Nat → Int) (sd : Int) (B : Nat) (v : Value) (w : World) (ps : List (Nat × Nat)) : Prop where
  at_ : ∀ j (hj : j < ps.length), StoreAt w ps[j].1 ps[j].2 [(dig bg rk (encM sd j), encM sd j)] ∧ ∀ b, v.ownBlock = some b → Far b w ps[j].1 ps[j].2 [(dig bg rk (encM sd j), encM sd j)]
  base : ∀ p ∈ ps, B ≤ p.2
theorem Crowd.nil (bg : List Int) (rk : Nat → Int) (sd : Int) (B : Nat) (v : Value) (w : World) : Crowd bg rk sd B v w [] := ⟨fun j hj => absurd hj (Nat.not_lt_zero _), fun p hp => by cases hp⟩
theorem Crowd.below {bg : List Int} {rk : Nat → Int} {sd : Int} {B : Nat} {v : Value} {w w' : World} {ps : List (Nat × Nat)} (h : Crowd bg rk sd B v w ps) (hb : Below w.heap.size w w') : Crowd bg rk sd B v w' ps :=
  ⟨fun j hj => ⟨(h.at_ j hj).1.below hb, fun b hv => ((h.at_ j hj).2 b hv).below hb⟩, h.base⟩
theorem Crowd.other {bg : List Int} {rk : Nat → Int} {sd : Int} {B : Nat} {v : Value} {w w' : World} {ps : List (Nat × Nat)} {km : Nat} {kv : KV} (h : Crowd bg rk sd B v w ps) (hm : IMap w km kv) (hne : ∀ p ∈ ps, p.2 ≠ km) (hb : But km w w') : Crowd bg rk sd B v w' ps :=
  ⟨fun j hj => ⟨(h.at_ j hj).1.other hm (hne _ (List.getElem_mem hj)) hb, fun b hv => ((h.at_ j hj).2 b hv).other hm (hne _ (List.getElem_mem hj)) hb⟩, h.base⟩
theorem Crowd.snoc {bg : List Int} {rk : Nat → Int} {sd : Int} {B : Nat} {v : Value} {w : World} {ps : List (Nat × Nat)} {ks km : Nat} (h : Crowd bg rk sd B v w ps) (hs : StoreAt w ks km [(dig bg rk (encM sd ps.length), encM sd ps.length)])
    (hf : ∀ b, v.ownBlock = some b → Far b w ks km [(dig bg rk (encM sd ps.length), encM sd ps.length)]) (hB : B ≤ km) : Crowd bg rk sd B v w (ps ++ [(ks, km)]) := by
  refine ⟨fun j hj => ?_, fun p hp => ?_⟩
  · rw [List.length_append, List.length_singleton] at hj
    by_cases e : j < ps.length
    · rw [List.getElem_append_left e]; exact h.at_ j e
    · obtain rfl : j = ps.length := by omega
      rw [List.getElem_append_right (Nat.le_refl _)]
      simp only [Nat.sub_self, List.getElem_cons_zero]
      exact ⟨hs, hf⟩
  · rcases List.mem_append.1 hp with hp | hp
    · exact h.base p hp
    · rw [List.mem_singleton.1 hp]; exact hB
/-- The row of the stores has been written. -/
theorem Crowd.grown {bg : List Int} {rk : Nat → Int} {sd : Int} {B : Nat} {v v' : Value} {w w' : World} {ps : List (Nat × Nat)} (h : Crowd bg rk sd B v w ps) (hg : w.grownBy w' v.ownBlock) (ha : v'.ownBlock = v.ownBlock ∨ ∃ b, v'.ownBlock = some b ∧ w.heap.size ≤ b) : Crowd bg rk sd B v' w' ps := by
  have hb : ∀ b, (∀ q, v.ownBlock = some q → q = b) → But b w w' := fun b hq => ⟨hg.os, hg.tape, hg.output, hg.size, fun j hj hne => hg.block j hj (fun e => hne (hq j e.symm).symm.symm)⟩
  refine ⟨fun j hj => ?_, h.base⟩
  obtain ⟨h1, h2⟩ := h.at_ j hj
  cases hv : v.ownBlock with
  | none =>
    have hbl : Below w.heap.size w w' := ⟨hg.os, hg.tape, hg.output, hg.size, fun j hj => hg.block j hj (by rw [hv]; simp)⟩
    refine ⟨h1.below hbl, fun b hb' => ?_⟩
    rcases ha with ha | ⟨b0, hb0, hle⟩
    · rw [ha, hv] at hb'; cases hb'
    · rw [hb0] at hb'
      cases hb'
      exact (Far.fresh h1 hle).below hbl
  | some q =>
    have hq := h2 q hv
    have hbq : But q w w' := hb q (fun q' e => by rw [hv] at e; exact (Option.some.inj e).symm)
    refine ⟨(hq.but hbq).st, fun b hb' => ?_⟩
    rcases ha with ha | ⟨b0, hb0, hle⟩
    · rw [ha, hv] at hb'
      cases hb'
      exact hq.but hbq
    · rw [hb0] at hb'
      cases hb'
      refine ⟨(hq.but hbq).st, by have := h1.blk.lt; omega, ?_, ?_⟩
      · obtain ⟨kv, hm, _⟩ := h1.map
        have := hm.lt
        omega
      · exact (Far.fresh h1 hle).own.of_block (by
          obtain ⟨kv, hm, _⟩ := h1.map
          exact hbq.block _ hm.lt hq.nkm)
end Go.Proofs.YtfbkkcigkpffiaaDoor.St

namespace Go.Proofs.YtfbkkcigkpffiaaDoor.St
open Go Go.Lib Go.RowKit Go.ChangeMaps Go.Proofs.YtfbkkcigkpffiaaDoorW.PrintWords Go.Proofs.YtfbkkcigkpffiaaDoorW.PrintLast Go.Proofs.YtfbkkcigkpffiaaDoorW.PrintMore Go.Proofs.YtfbkkcigkpffiaaDoor.PStoreMany
set_option linter.unusedVariables false
set_option linter.unusedSimpArgs false
theorem put_new_fin {w w' : World} {ks km : Nat} {d di : By} {b : List Int} {nw : Bool} {er : Nat} {its' : Its} {e : Ending} (he : e = .returned (.tuple #[vId di, .bool nw, .int .i64 (er : Nat)])) (hres : PutAny 0 d [] b di nw er its') (hs : StoreAt w' ks km its') (hb : But km w w') (hk : OwnKept km w w') :
    e = .returned (.tuple #[vId d, .bool true, .int .i64 0]) ∧ StoreAt w' ks km [(d, b)] ∧ But km w w' ∧ OwnKept km w w' := by
  have h2 : PutRes d [] b di nw er its' := by
    unfold PutAny at hres
    rwa [if_pos rfl] at hres
  obtain ⟨rfl, rfl, rfl, rfl⟩ := put_first h2
  exact ⟨he, hs, hb, hk⟩
/-- Put of a blob into an empty store. -/
theorem put_new (bg : List Int) (rk : Nat → Int) (ks km : Nat) (r : List Int) (A : Option Addr) (c : Nat) (w : World) (hT : Tabs bg rk w) (he : w.cell? ⟨3, 0, none⟩ = some (.int .i64 0)) (hS : StoreAt w ks km [])
    (hC : Kd.C kB w A (1 :: r).length (1 :: r)) (hc : (1 :: r).length ≤ c) (hl : (1 :: r).length ≤ 65536) (hby : ∀ y ∈ (1 :: r), Byte y) :
    Calls Tryd.prog 15 #[.pointer (some ⟨ks, 0, none⟩), .slice A (1 :: r).length c] w fun e w' => e = .returned (.tuple #[vId (dig bg rk (1 :: r)), .bool true, .int .i64 0]) ∧ StoreAt w' ks km [(dig bg rk (1 :: r), 1 :: r)] ∧ But km w w' ∧ OwnKept km w w' := by
  refine (put_any bg rk ks km [] (1 :: r) A c w 0 hT hS hC hc (by omega) (fun _ => hl) hby (fun x hx => by cases hx) (fun W hb => (Parse_walk r A c W (Kd.C_below hC hb) hc hl (pw_cell_below hb he)).mono ?_)).mono ?_
  · rintro e w' ⟨v, hv, he, hb⟩
    exact ⟨objC v, objC_len v, objC_one v hv, he, hb⟩
  · rintro e w' ⟨di, nw, er, its', he, hres, hs, hb, hd, hk⟩
    exact put_new_fin he hres hs hb hk
theorem owned_nil {w : World} {ks km : Nat} (h : StoreAt w ks km []) (O : Nat → Prop) : Owned w km O := by
  obtain ⟨kv, hm, hs⟩ := h.map
  match kv, hs with
  | [], _ => exact ⟨[], hm, fun x hx => by cases hx⟩
theorem cmp_self (l : List Int) (hl : l.length ≤ 4611686018427387904) : ∀ d i : Nat, i + d = l.length → satchelref0_Cmp.l0 (2 * d + 2) l l (i : Int) = some 0
  | 0, i, h => by
    rw [show 2 * 0 + 2 = 1 + 1 from rfl]
    unfold satchelref0_Cmp.l0
    rw [if_neg (by omega)]
    unfold satchelref0_Cmp.j1
    rw [if_neg (by decide), if_neg (by omega), if_neg (by omega)]
  | d + 1, i, h => by
    rw [show 2 * (d + 1) + 2 = (2 * d + 2) + 1 + 1 by omega]
    unfold satchelref0_Cmp.l0
    rw [if_pos (by omega)]
    unfold satchelref0_Cmp.j1
    rw [if_pos (by simp; omega), if_pos (by omega), if_pos (by omega), if_pos (by omega), if_neg (by omega), if_neg (by omega)]
    rw [show wrap64 ((i : Int) + 1) = ((i + 1 : Nat) : Int) by unfold wrap64; omega]
    exact cmp_self l hl d (i + 1) (by omega)
theorem eq_self (l : List Int) (hl : l.length ≤ 4611686018427387904) : satchelref0_Eq.f (2 * l.length + 2) l l = some true := by
  unfold satchelref0_Eq.f satchelref0_Cmp.f
  rw [show (0 : Int) = ((0 : Nat) : Int) from rfl, cmp_self l hl l.length 0 (by omega)]
  rfl
/-- Ids of a store of one. -/
theorem ids_one (ks km : Nat) (d : By) (b : List Int) (w : World) (h : StoreAt w ks km [(d, b)]) :
    Calls Tryd.prog 18 #[.pointer (some ⟨ks, 0, none⟩)] w fun e w' => ∃ g cap, e = .returned (.slice (some ⟨g, 0, none⟩) 1 cap) ∧ RowI w' g [d] ∧ g < w'.heap.size ∧ Below w.heap.size w w' := by
  refine (ids_walk ks km _ w h (by simp)).mono ?_
  rintro e w' ⟨g, cap, D, rfl, hp, _, _, hr, _, hg, _, hb⟩
  obtain rfl : D = [d] := List.perm_singleton.1 hp
  exact ⟨g, cap, rfl, hr, hg, hb⟩
/-- Get at a store of one. -/
theorem get_one (ks km : Nat) (d : By) (hd : d.length = 32) (b : List Int) (hl : b.length ≤ 65536) (w : World) (h : StoreAt w ks km [(d, b)]) :
    Calls Tryd.prog 19 #[.pointer (some ⟨ks, 0, none⟩), vId d] w fun e w' => ∃ A c, e = .returned (.tuple #[.slice A b.length c, .int .i64 0]) ∧ b.length ≤ c ∧ Kd.C kB w' A b.length b ∧ Below w.heap.size w w' := by
  refine (get_walk ks km _ d hd w h (fun b' hb => by simp [iget] at hb; subst hb; omega)).mono ?_
  rintro e w' ⟨hb, ⟨h0, _⟩ | ⟨b', v, h0, rfl, hv⟩⟩
  · simp [iget] at h0
  · obtain rfl : b = b' := by simpa [iget] using h0
    obtain ⟨A, c, rfl, h1, h2⟩ := hv
    exact ⟨A, c, rfl, h1, h2, hb⟩
set_option maxRecDepth 100000 in
set_option maxHeartbeats 4000000 in
theorem many_walk (bg : List Int) (rk : Nat → Int) (n sd : Int) (hsd : Byte sd) (w : World) (hT : Tabs bg rk w) (he : w.cell? ⟨3, 0, none⟩ = some (.int .i64 0)) :
    Calls Tryd.prog 4 #[.agg #[.int .i64 n, .int .u8 sd]] w fun e w' => e = .returned (.bool true) ∧ Below w.heap.size w w' := by
  have HT := Lib.hid hT
  have HE := Lib.hid he
  obtain ⟨w1, hw1⟩ : ∃ w1, w.alloc (.cells [Value.int .i64 n, Value.int .u8 sd].toArray 42) = w1 := ⟨_, rfl⟩
  have HW1 := Lib.hid hw1
  have HB1 := Lib.hid (show Below w.heap.size w w1 from hw1 ▸ below_alloc (Below.refl _ _) _)
  have HP := Lib.hid (show Blk w1 w.heap.size 42 [Value.int .i64 n, Value.int .u8 sd] from hw1 ▸ Blk.new w 42 [Value.int .i64 n, Value.int .u8 sd])
  have HT1 := Lib.hid (hT.below HB1.out)
  have HE1 := Lib.hid (pw_cell_below HB1.out he)
  have HSD := Lib.hid hsd
  have c0 : w1.cell? ⟨w.heap.size, 0, none⟩ = some (.int .i64 n) := HP.out.cell 0
  clear hT he hw1 hsd
  go_enter Tryd.func4, Tryd.ntmps4
  go_upto_region 1 with fail
  change Code.wp _ _ _ _ (w.alloc (.cells [Value.int .i64 n, Value.int .u8 sd].toArray 42))
  rw [HW1.out]
  go_wp2_with fail
  obtain ⟨m0, hm, hin⟩ := into_any n 64 (by decide) (by decide)
  refine (satchellaw4_into.calls n 64 m0 w1 hin).mono ?_
  rintro e w4 ⟨rfl, hd4⟩
  have HB4 := Lib.hid (HB1.out.trans (hd4.below.mono HB1.out.size))
  have HP4 := Lib.hid (HP.out.below hd4.below)
  have HT4 := Lib.hid (HT1.out.below hd4.below)
  have HE4 := Lib.hid (pw_cell_below hd4.below HE1.out)
  obtain ⟨m, hmm⟩ : ∃ m, m0 + 1 = m := ⟨_, rfl⟩
  have hmz : (m0 : Int) + 1 = (m : Int) := by omega
  have hmle : m ≤ 64 := by omega
  clear hd4 hin c0
  go_wp2_with fail
  rw [show (1 : Int) + (m0 : Int) = (m : Int) by omega]
  clear hmm hmz hm
  go_loopw [4, 5] (fun v4 v5 wr => ∃ (i : Nat) (ps : List (Nat × Nat)) (A : Option Addr) (c : Nat), i ≤ m ∧ ps.length = i ∧ v5 = .int .i64 i ∧ v4 = .slice A i c ∧ Kd.R kP 25 wr w4.heap.size (fun k => w4.heap.size ≤ k) (.slice A i c) (ps.map (·.1)) ∧ Crowd bg rk sd w4.heap.size (.slice A i c) wr ps ∧ Below w4.heap.size w4 wr) (fun _ v5 _ => m - (RowKit.intOf v5).toNat)
  case atStart => exact ⟨0, [], none, 0, Nat.zero_le _, rfl, rfl, rfl, Kd.R_nil _ _ _ _ _, Crowd.nil _ _ _ _ _ _, Below.refl _ _⟩
  case round =>
    obtain ⟨i, ps, A, c, him, hps, rfl, rfl, hR, hcr, hbw⟩ := hrel
    have HPS := Lib.hid hps
    have HR := Lib.hid hR
    have HCR := Lib.hid hcr
    have HBW := Lib.hid hbw
    have HNW := Lib.hid (snew_walk wr)
    clear hps hR hcr hbw
    by_cases hi : i < m
    · have hi' : (i : Int) < (m : Int) := by omega
      have hi256 : (i : Int) < 256 := by omega
      go_wp2_with fail
      refine HNW.out.mono ?_
      rintro e w5 ⟨ks, km, rfl, hks, hkm, hs5, hb5⟩
      have HKS := Lib.hid hks
      have HKM := Lib.hid hkm
      have HS5 := Lib.hid hs5
      have HB5 := Lib.hid hb5
      have c1 : w5.cell? ⟨w.heap.size, 1, none⟩ = some (.int .u8 sd) := ((HP4.out.below HBW.out).below hb5).cell 1
      clear hks hkm hs5 hb5 HNW
      go_wp2_with fail
      have HEB := Lib.hid (show ∀ y ∈ encM sd i, Byte y from by
        intro y hy
        have h1 := HSD.out
        simp only [encM, List.mem_cons, List.not_mem_nil, or_false] at hy
        unfold Byte at h1 ⊢
        rcases hy with rfl | rfl | rfl | rfl <;> omega)
      have HBA := Lib.hid (show Below w5.heap.size w5 (w5.alloc (Obj.cells #[Value.int IntKind.u8 1, Value.int IntKind.u8 99, Value.int IntKind.u8 sd, Value.int IntKind.u8 (i : Int)] 5)) from below_alloc (Below.refl _ _) _)
      have HCL := Lib.hid (lit_C w5 (encM sd i) (by simp [encM]))
      have HB5a := Lib.hid (HB5.out.trans (HBA.out.mono HB5.out.size))
      have HBWa := Lib.hid (HBW.out.trans (HB5a.out.mono HBW.out.size))
      obtain ⟨d, hd⟩ : ∃ d, dig bg rk (encM sd i) = d := ⟨_, rfl⟩
      have HDL := Lib.hid (show d.length = 32 from hd ▸ dig_len bg rk (encM sd i))
      have HPU := Lib.hid (show Calls Tryd.prog 15 #[.pointer (some ⟨ks, 0, none⟩), .slice (some ⟨w5.heap.size, 0, none⟩) 4 4] (w5.alloc (Obj.cells #[Value.int IntKind.u8 1, Value.int IntKind.u8 99, Value.int IntKind.u8 sd, Value.int IntKind.u8 (i : Int)] 5)) fun e w' => e = .returned (.tuple #[vId d, .bool true, .int .i64 0]) ∧ StoreAt w' ks km [(d, encM sd i)] ∧ But km (w5.alloc (Obj.cells #[Value.int IntKind.u8 1, Value.int IntKind.u8 99, Value.int IntKind.u8 sd, Value.int IntKind.u8 (i : Int)] 5)) w' ∧ OwnKept km (w5.alloc (Obj.cells #[Value.int IntKind.u8 1, Value.int IntKind.u8 99, Value.int IntKind.u8 sd, Value.int IntKind.u8 (i : Int)] 5)) w' from
        hd ▸ put_new bg rk ks km [99, sd, (i : Int)] _ 4 _ (HT4.out.below HBWa.out) (pw_cell_below HBWa.out HE4.out) (HS5.out.below HBA.out) HCL.out (by simp) (by simp) HEB.out)
      have HD := Lib.hid hd
      clear hd
      refine HPU.out.mono ?_
      rintro e w6 ⟨rfl, hs6, hb6, hk6⟩
      have HS6 := Lib.hid hs6
      have HB6 := Lib.hid (show Below wr.heap.size wr w6 from ((But.of_below HB5a.out).trans hb6).new HKM.out)
      have HOW := Lib.hid (show ∀ b, b < wr.heap.size → Far b w6 ks km [(d, encM sd i)] from fun b hlt => by
        have h1 := HKS.out
        have h2 := HKM.out
        have h3 := HB5a.out.size
        exact Far.of_owned hs6 (by omega) (by omega) (hk6 (· ≠ b) (fun j hj => by simp at hj; have := HB5.out.size; show j ≠ b; omega) (owned_nil (HS5.out.below HBA.out) _)))
      clear hs6 hb6 hk6 HPU HEB HCL HS5
      obtain ⟨w7, hw7⟩ : ∃ w7, w6.alloc (.cells (noughts 32).toArray 33) = w7 := ⟨_, rfl⟩
      have HW7 := Lib.hid hw7
      have HI7 := Lib.hid (show Blk w7 w6.heap.size 33 (noughts 32) from hw7 ▸ Blk.new w6 33 (noughts 32))
      have HB7 := Lib.hid (show Below w6.heap.size w6 w7 from hw7 ▸ below_alloc (Below.refl _ _) _)
      have HTH := Lib.hid (HI7.out.there 0 (cl d).toArray.size (by rw [List.size_toArray, List.length_map, HDL.out]; simp))
      have HSZ := Lib.hid (size33' HDL.out)
      have HON := Lib.hid (one33 d)
      have HI8 := Lib.hid (ret_id d HDL.out HI7.out HB7.out (Nat.le_refl _))
      clear hw7
      go_upto_region 10 with (first | ((change wpList _ _ _ _ _ (w6.alloc (.cells (noughts 32).toArray 33))); rw [HW7.out]; refine wpList_store_mid rfl 33 (.tmp 7) (.tmp 34) rfl w6.heap.size 0 (cl d).toArray rfl rfl HTH.out HSZ.out HON.out ?_))
      obtain ⟨w8, hw8⟩ : ∃ w8, w7.setCells w6.heap.size 0 (cl d) = w8 := ⟨_, rfl⟩
      rw [hw8] at HI8 ⊢
      have HB8 := Lib.hid HI8.out.2
      clear hw8 HI8 HTH HSZ HON HI7 HB7 HW7
      go_wp2_with fail
      refine (num_walk 0 w8).mono ?_
      rintro e w9 ⟨rfl, hd9⟩
      have HB9 := Lib.hid (HB8.out.trans (hd9.below.mono HB8.out.size))
      clear hd9
      have HB69 := Lib.hid (HB6.out.trans (HB9.out.mono HB6.out.size))
      have HR9 := Lib.hid (Kd.R_below HR.out HB69.out)
      have HBW9 := Lib.hid (HBW.out.trans (HB69.out.mono HBW.out.size))
      have HCR9 := Lib.hid (show Crowd bg rk sd w4.heap.size (.slice A i c) w9 (ps ++ [(ks, km)]) from by
        have hd := HD.out
        have hp := HPS.out
        refine (HCR.out.below HB69.out).snoc ?_ (fun b hb => ?_) (by have := HKM.out; have := HBW.out.size; omega)
        · rw [hp, hd]; exact HS6.out.below HB9.out
        · rw [hp, hd]
          have h1 := Kd.R_own HR.out
          obtain ⟨inner, h1⟩ := h1
          exact (HOW.out b (own_lt h1 b hb)).below HB9.out)
      clear HR HCR HBW HOW HS6 HB6 HB8 HB9
      go_wp2_with (at_builtin; refine Kd.R_append kP (W := w9) (w0 := w4) w4.heap.size rfl (.tmp 44) (.tmp 46) 43 25 _ 8 rfl Tryd.underlying43 info25 (by decide) (by decide) (by decide) (.slice A i c) (ps.map (·.1)) ks [.pointer (some ⟨ks, 0, none⟩)] (fun k => w4.heap.size ≤ k) (fun _ => False) rfl (by simp [Act.eval]) rfl (fun _ hk => hk.elim) (fun k hk => Nat.le_trans HBW9.out.size hk) HR9.out HBW9.out HBW9.out.size (by rw [List.length_map, HPS.out]; omega) ?_; intro v10 w10 hr10 hb10 hg10 hat10; have HR10 := Lib.hid hr10; have HB10 := Lib.hid hb10; have HCR10 := Lib.hid (HCR9.out.grown hg10 hat10); clear hr10 hb10 hg10 hat10)
      obtain ⟨A10, c10, hv10⟩ := Kd.R_slice HR10.out
      rw [List.length_append, List.length_map, HPS.out, List.length_singleton] at hv10
      subst hv10
      go_roundw
      case rel => exact ⟨i + 1, ps ++ [(ks, km)], A10, c10, by omega, by rw [List.length_append, HPS.out]; rfl, by go_num, rfl, by rw [List.map_append]; exact HR10.out, HCR10.out, HB10.out⟩
      all_goals (simp only [RowKit.intOf]; omega)
    · obtain rfl : i = m := by omega
      go_wp2_with fail
      obtain ⟨wz, rfl⟩ : ∃ wz, wz = wr := ⟨_, rfl⟩
      have HBZ := Lib.hid (HB4.out.trans (HBW.out.mono HB4.out.size))
      have HPZ := Lib.hid (HP4.out.below HBW.out)
      clear HNW hi him
      go_loopw [10] (fun v10 wy => ∃ j : Nat, j ≤ i ∧ v10 = .int .i64 j ∧ Below wz.heap.size wz wy) (fun v10 _ => i - (RowKit.intOf v10).toNat)
      case atStart => exact ⟨0, Nat.zero_le _, rfl, Below.refl _ _⟩
      case round =>
        obtain ⟨j, hji, rfl, hby⟩ := hrel
        have HBY := Lib.hid hby
        clear hby
        by_cases hlt : j < i
        · have hlt' : (j : Int) < (i : Int) := by omega
          have hjp : j < ps.length := by rw [HPS.out]; exact hlt
          obtain ⟨p, hp⟩ : ∃ p, ps[j] = p := ⟨_, rfl⟩
          have hst := (HCR.out.at_ j hjp).1
          rw [hp] at hst
          have hC := (Kd.R_reads' HR.out).2.2
          obtain ⟨ad, rfl, hc⟩ := hC.2.2 (by rw [List.length_map, HPS.out]; omega)
          obtain ⟨cs, hl, hk, hcell⟩ := hc j p.1 (by rw [List.getElem?_map, List.getElem?_eq_getElem hjp, hp]; rfl)
          have hk' : cs = [.pointer (some ⟨p.1, 0, none⟩)] := hk
          subst hk'
          have hcz : wz.cell? (ad.add j) = some (.pointer (some ⟨p.1, 0, none⟩)) := by
            have := hcell 0 _ rfl
            rwa [show kP.sz = 1 from rfl, Nat.mul_one, Nat.add_zero] at this
          have HCZ := Lib.hid hcz
          obtain ⟨d, hd⟩ : ∃ d, dig bg rk (encM sd j) = d := ⟨_, rfl⟩
          have HDL := Lib.hid (show d.length = 32 from hd ▸ dig_len bg rk (encM sd j))
          rw [hd] at hst
          have HST := Lib.hid hst
          obtain ⟨b, hb⟩ : ∃ b, encM sd j = b := ⟨_, rfl⟩
          have HBE := Lib.hid hb
          have HBL := Lib.hid (show b.length = 4 from by rw [← hb]; rfl)
          rw [hb] at HST
          obtain ⟨ks, km⟩ := p
          have HID := Lib.hid (ids_one ks km d b wr (HST.out.below HBY.out))
          have c1 : wr.cell? (ad.add j) = some (.pointer (some ⟨ks, 0, none⟩)) := pw_cell_below HBY.out hcz
          clear hp hst hC hc hl hk hcell hcz hd hb hjp
          go_wp2_with fail
          refine HID.out.mono ?_
          rintro e w2 ⟨g, cap, rfl, hrow, hg, hb2⟩
          have HB2 := Lib.hid (HBY.out.trans (hb2.mono HBY.out.size))
          have HROW := Lib.hid hrow
          have HG := Lib.hid hg
          have c2 : w2.cell? (ad.add j) = some (.pointer (some ⟨ks, 0, none⟩)) := pw_cell_below HB2.out HCZ.out
          have HLE := Lib.hid (show Calls Tryd.prog 14 #[.pointer (some ⟨ks, 0, none⟩)] w2 fun e w' => e = .returned (.int .i64 1) ∧ w2 = w' from len_walk ks km _ w2 (HST.out.below HB2.out))
          clear hrow hg hb2 c1 HID
          go_wp2_with fail
          refine HLE.out.mono ?_
          rintro e w3 ⟨rfl, rfl⟩
          go_upto_region 19 with fail
          have HRA := Lib.hid (show w2.rangeAt g 0 (cl d) from HROW.out.range 0 (by simp))
          have HGE := Lib.hid (fun W (hb : Below w2.heap.size w2 W) => get_one ks km d HDL.out b (by rw [HBL.out]; decide) W ((HST.out.below HB2.out).below hb))
          have hu33 := Tryd.underlying33
          have hi33 : (Tryd.prog.info? 33).map (·.size) = some (cl d).length := by rw [List.length_map, HDL.out]; exact size33
          have HSX := Lib.hid (fun w' (hb : Below w2.heap.size w2 w') => (show w'.cell? (ad.add j) = some (.pointer (some ⟨ks, 0, none⟩)) ∧ w'.rangeAt g 0 (cl d) from ⟨pw_cell_below hb c2, fun j v hv => pw_cell_below hb (HRA.out j v hv)⟩))
          have hj0 : (0 : Int) ≤ (j : Int) := by omega
          clear c2
          go_region_held3 (fun w' => w'.cell? (ad.add j) = some (.pointer (some ⟨ks, 0, none⟩)) ∧ w'.rangeAt g 0 (cl d))
            (first | assumption | exact HSX.out _ (pw_below_drewN (Below.refl _ _) 1) | exact HSX.out _ (by assumption))
            (first | (go_at_call 19; (refine (HGE.out _ (pw_below_drewN (Below.refl _ _) 1)).mono ?_); rintro e w5 ⟨A5, c5, rfl, hc5, hC5, hb5⟩; have hb25 := Below.trans (pw_below_drewN (Below.refl _ w2) 1) hb5; have hS5 := HSX.out _ hb25))
          have hb25' : Below w2.heap.size w2 w5 := hb25
          have HB5 := Lib.hid (HB2.out.trans (hb25'.mono HB2.out.size))
          have HC5 := Lib.hid hC5
          have HCC5 := Lib.hid hc5
          have c51 : w5.cell? ⟨w.heap.size, 1, none⟩ = some (.int .u8 sd) := (HPZ.out.below HB5.out).cell 1
          have HEF := Lib.hid (eq_self b (by rw [HBL.out]; decide))
          rw [HBL.out] at HC5 HCC5 ⊢
          clear hb25 hb25' hC5 hc5 hb5 hS5 hu33 hi33 HSX HGE HRA hj0
          go_wp2_with fail
          refine (num_walk 0 w5).mono ?_
          rintro e w6 ⟨rfl, hd6⟩
          have HB56 := Lib.hid hd6.below
          have c61 : w6.cell? ⟨w.heap.size, 1, none⟩ = some (.int .u8 sd) := pw_cell_below HB56.out c51
          clear hd6 c51
          go_wp2_with fail
          have HBA := Lib.hid (show Below w6.heap.size w6 (w6.alloc (Obj.cells #[Value.int IntKind.u8 1, Value.int IntKind.u8 99, Value.int IntKind.u8 sd, Value.int IntKind.u8 (j : Int)] 5)) from below_alloc (Below.refl _ _) _)
          have HCL := Lib.hid (show Kd.C kB (w6.alloc (Obj.cells #[Value.int IntKind.u8 1, Value.int IntKind.u8 99, Value.int IntKind.u8 sd, Value.int IntKind.u8 (j : Int)] 5)) (some ⟨w6.heap.size, 0, none⟩) b.length b from HBE.out ▸ lit_C w6 (encM sd j) (by simp [encM]))
          have HEQ := Lib.hid (satchelref0_Eq.calls (2 * b.length + 2) A5 c5 b (some ⟨w6.heap.size, 0, none⟩) 4 b true _ (by have h1 := HC5.out; rw [← HBL.out] at h1; exact Kd.C_below h1 (HB56.out.trans (HBA.out.mono HB56.out.size))) (by rw [HBL.out]; exact HCC5.out) HCL.out (by rw [HBL.out]; decide) HEF.out)
          rw [HBL.out] at HEQ
          refine HEQ.out.mono ?_
          rintro e w7 ⟨rfl, hd7⟩
          have HB7 := Lib.hid (HB5.out.trans ((HB56.out.trans ((HBA.out.trans (hd7.below.mono HBA.out.size)).mono HB56.out.size)).mono HB5.out.size))
          clear hd7 HEQ HCL HBA
          go_wp2_with fail
          go_roundw
          case rel => exact ⟨j + 1, by omega, by go_num, HB7.out⟩
          all_goals (simp only [RowKit.intOf]; omega)
        · obtain rfl : j = i := by omega
          go_wp2_with fail
          go_ret
          exact ⟨rfl, HBZ.out.trans (HBY.out.mono HBZ.out.size)⟩
end Go.Proofs.YtfbkkcigkpffiaaDoor.St
