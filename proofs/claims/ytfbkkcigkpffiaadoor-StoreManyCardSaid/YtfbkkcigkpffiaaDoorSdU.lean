/- The walk of StoreMany. -/
import Derived.Test.YtfbkkcigkpffiaaDoorSdS
import Derived.Test.YtfbkkcigkpffiaaDoorSdT
import Derived.Test.YtfbkkcigkpffiaaDoorPStoreManyx1
namespace Go.Proofs.YtfbkkcigkpffiaaDoor.St
open Go Go.Lib Go.RowKit Go.ChangeMaps Go.Proofs.YtfbkkcigkpffiaaDoorW.PrintWords Go.Proofs.YtfbkkcigkpffiaaDoorW.PrintLast Go.Proofs.YtfbkkcigkpffiaaDoorW.PrintMore Go.Proofs.YtfbkkcigkpffiaaDoor.PStoreMany
set_option linter.unusedVariables false
set_option linter.unusedSimpArgs false
theorem into_any (n : Int) (M : Nat) (h0 : 0 < M) (h1 : M ≤ 1000000000000) : ∃ m : Nat, m < M ∧ satchellaw4_into.f n M = some (m : Int) := by
  unfold satchellaw4_into.f
  rw [if_neg (by omega)]
  have h1 : -(M : Int) < Int.tmod n M ∧ Int.tmod n M < M := by
    constructor
    · have := Int.lt_tmod_of_pos n (b := (M : Int)) (by omega)
      omega
    · exact Int.tmod_lt_of_pos n (by omega)
  by_cases h : Int.tmod n M < 0
  · rw [if_pos h]
    refine ⟨(Int.tmod n M + M).toNat, by omega, ?_⟩
    congr 1
    rw [show wrap64 (Int.tmod n M + M) = Int.tmod n M + M from by unfold wrap64; omega]
    omega
  · rw [if_neg h]
    exact ⟨(Int.tmod n M).toNat, by omega, by congr 1; omega⟩
theorem Same.imp_mem {w w' : World} : ∀ {kv : KV} {its : Its}, (∀ x ∈ kv, ∀ b, IsB w x.2 b → IsB w' x.2 b) → Same w kv its → Same w' kv its
  | [], [], _, _ => trivial
  | (a, v) :: r, (d, b) :: s, hB, h => ⟨h.1, hB _ List.mem_cons_self _ h.2.1, h.2.2.imp_mem (fun x hx => hB x (List.mem_cons_of_mem _ hx))⟩
  | [], _ :: _, _, h => h.elim
  | _ :: _, [], _, h => h.elim
/-- No bytes of the map's values lie in block b. -/
def Clear (w : World) (km b : Nat) : Prop := ∃ kv, IMap w km kv ∧ ∀ x ∈ kv, ∀ ad n c, x.2 = .slice (some ad) n c → 0 < n → ad.block ≠ b
/-- A store that has nothing in block b. -/
structure Far (b : Nat) (w : World) (ks km : Nat) (its : Its) : Prop where
  st : StoreAt w ks km its
  nks : ks ≠ b
  nkm : km ≠ b
  own : Clear w km b
theorem Far.but {b : Nat} {w w' : World} {ks km : Nat} {its : Its} (h : Far b w ks km its) (hb : But b w w') : Far b w' ks km its := by
  obtain ⟨kv, hm, hc⟩ := h.own
  obtain ⟨kv', hm', hs⟩ := h.st.map
  obtain rfl := IMap.unique hm hm'
  have hm2 : IMap w' km kv := hm.of_block (hb.block km hm.lt h.nkm)
  refine ⟨⟨h.st.blk.but hb h.nks, kv, hm2, hs.imp_mem (fun x hx b' hB => ?_)⟩, h.nks, h.nkm, kv, hm2, hc⟩
  obtain ⟨A, c, h1, h2, h3⟩ := hB
  refine ⟨A, c, h1, h2, h3.1, h3.2.1, fun hp => ?_⟩
  obtain ⟨ad, ha, hcell⟩ := h3.2.2 hp
  refine ⟨ad, ha, fun j y hj => ?_⟩
  obtain ⟨cs, g1, g2, g3⟩ := hcell j y hj
  exact ⟨cs, g1, g2, fun i u hv => cell_but hb (g3 i u hv) (by
    rw [add_block]
    exact hc x hx ad _ c (by rw [h1, ha]) hp)⟩
theorem Clear.of_block {w w' : World} {km b : Nat} (h : Clear w km b) (e : w'.heap[km]? = w.heap[km]?) : Clear w' km b := by
  obtain ⟨kv, h1, h2⟩ := h
  exact ⟨kv, h1.of_block e, h2⟩
theorem Far.below {b : Nat} {w w' : World} {ks km : Nat} {its : Its} (h : Far b w ks km its) (hb : Below w.heap.size w w') : Far b w' ks km its :=
  h.but (But.of_below hb)
theorem Far.other {b : Nat} {w w' : World} {ks km km' : Nat} {its : Its} {kv' : KV} (h : Far b w ks km its) (hm : IMap w km' kv') (hne : km ≠ km') (hb : But km' w w') : Far b w' ks km its :=
  ⟨h.st.other hm hne hb, h.nks, h.nkm, h.own.of_block (by
    obtain ⟨kv, h1, _⟩ := h.own
    exact hb.block km h1.lt hne)⟩
theorem Same.val {w : World} : ∀ {kv : KV} {its : Its}, Same w kv its → ∀ x ∈ kv, ∃ b, IsB w x.2 b
  | [], [], _, x, hx => by cases hx
  | (a, v) :: r, (d, b) :: s, h, x, hx => by
    rcases List.mem_cons.1 hx with rfl | hx
    · exact ⟨b, h.2.1⟩
    · exact h.2.2.val x hx
  | [], _ :: _, h, _, _ => h.elim
  | _ :: _, [], h, _, _ => h.elim
/-- A block that is not yet there. -/
theorem Far.fresh {b : Nat} {w : World} {ks km : Nat} {its : Its} (h : StoreAt w ks km its) (hb : w.heap.size ≤ b) : Far b w ks km its := by
  obtain ⟨kv, hm, hs⟩ := h.map
  refine ⟨h, by have := h.blk.lt; omega, by have := hm.lt; omega, kv, hm, fun x hx ad n c hv hn => ?_⟩
  obtain ⟨b', A, c', h1, h2, h3⟩ := hs.val x hx
  rw [hv] at h1
  injection h1 with e1 e2 e3
  obtain ⟨ad', ha, hcell⟩ := h3.2.2 (by omega)
  rw [← e1] at ha
  injection ha with ha
  subst ha
  obtain ⟨cs, g1, g2, g3⟩ := hcell 0 _ (List.getElem?_eq_getElem (show 0 < b'.length by omega))
  have g2' : cs = [b8 _] := g2
  have := World.block_lt_of_cell? w _ (g3 0 _ (by rw [g2']; rfl))
  rw [add_block] at this
  omega
theorem Far.of_owned {b : Nat} {w : World} {ks km : Nat} {its : Its} (h : StoreAt w ks km its) (h1 : ks ≠ b) (h2 : km ≠ b) (ho : Owned w km (· ≠ b)) : Far b w ks km its := by
  obtain ⟨kv, hm, hc⟩ := ho
  exact ⟨h, h1, h2, kv, hm, fun x hx ad n c hv _ => hc x hx ad.block (by rw [hv]; rfl)⟩
/-- Pointers. -/
def kP : Kd Nat := Kd.scalar (fun k => Value.pointer (some ⟨k, 0, none⟩)) (fun _ => rfl)
theorem info25 : (Tryd.prog.info? 25).map (fun i => (i.zero, i.size, i.bytes)) = some (some (.pointer none), kP.sz, 8) := by kernel_rfl
def encM (sd : Int) (j : Nat) : List Int := [1, 99, sd, (j : Int)]
/-- The stores that have been made. -/
structure Crowd (bg : List Int) (rk : Nat → Int) (sd : Int) (B : Nat) (v : Value) (w : World) (ps : List (Nat × Nat)) : Prop where
  at_ : ∀ j (hj : j < ps.length), StoreAt w ps[j].1 ps[j].2 [(dig bg rk (encM sd j), encM sd j)] ∧ ∀ b, v.ownBlock = some b → Far b w ps[j].1 ps[j].2 [(dig bg rk (encM sd j), encM sd j)]
  base : ∀ p ∈ ps, B ≤ p.2
theorem Crowd.nil (bg : List Int) (rk : Nat → Int) (sd : Int) (B : Nat) (v : Value) (w : World) : Crowd bg rk sd B v w [] := ⟨fun j hj => absurd hj (Nat.not_lt_zero _), fun p hp => by cases hp⟩
theorem Crowd.below {bg : List Int} {rk : Nat → Int} {sd : Int} {B : Nat} {v : Value} {w w' : World} {ps : List (Nat × Nat)} (h : Crowd bg rk sd B v w ps) (hb : Below w.heap.size w w') : Crowd bg rk sd B v w' ps :=
  ⟨fun j hj => ⟨(h.at_ j hj).1.below hb, fun b hv => ((h.at_ j hj).2 b hv).below hb⟩, h.base⟩
theorem Crowd.other {bg : List Int} {rk : Nat → Int} {sd : Int} {B : Nat} {v : Value} {w w' : World} {ps : List (Nat × Nat)} {km : Nat} {kv : KV} (h : Crowd bg rk sd B v w ps) (hm : IMap w km kv) (hne : ∀ p ∈ ps, p.2 ≠ km) (hb : But km w w') : Crowd bg rk sd B v w' ps :=
  ⟨fun j hj => ⟨(h.at_ j hj).1.other hm (hne _ (List.getElem_mem hj)) hb, fun b hv => ((h.at_ j hj).2 b hv).other hm (hne _ (List.getElem_mem hj)) hb⟩, h.base⟩
theorem Crowd.snoc {bg : List Int} {rk : Nat → Int} {sd : Int} {B : Nat} {v : Value} {w : World} {ps : List (Nat × Nat)} {ks km : Nat} (h : Crowd bg rk sd B v w ps) (hs : StoreAt w ks km [(dig bg rk (encM sd ps.length), encM sd ps.length)])
    (hf : ∀ b, v.ownBlock = some b → Far b w ks km [(dig bg rk (encM sd ps.length), encM sd ps.length)]) (hB : B ≤ km) : Crowd bg rk sd B v w (ps ++ [(ks, km)]) := by
  refine ⟨fun j hj => ?_, fun p hp => ?_⟩
  · rw [List.length_append, List.length_singleton] at hj
    by_cases e : j < ps.length
    · rw [List.getElem_append_left e]; exact h.at_ j e
    · obtain rfl : j = ps.length := by omega
      rw [List.getElem_append_right (Nat.le_refl _)]
      simp only [Nat.sub_self, List.getElem_cons_zero]
      exact ⟨hs, hf⟩
  · rcases List.mem_append.1 hp with hp | hp
    · exact h.base p hp
    · rw [List.mem_singleton.1 hp]; exact hB
/-- The row of the stores has been written. -/
theorem Crowd.grown {bg : List Int} {rk : Nat → Int} {sd : Int} {B : Nat} {v v' : Value} {w w' : World} {ps : List (Nat × Nat)} (h : Crowd bg rk sd B v w ps) (hg : w.grownBy w' v.ownBlock) (ha : v'.ownBlock = v.ownBlock ∨ ∃ b, v'.ownBlock = some b ∧ w.heap.size ≤ b) : Crowd bg rk sd B v' w' ps := by
  have hb : ∀ b, (∀ q, v.ownBlock = some q → q = b) → But b w w' := fun b hq => ⟨hg.os, hg.tape, hg.output, hg.size, fun j hj hne => hg.block j hj (fun e => hne (hq j e.symm).symm.symm)⟩
  refine ⟨fun j hj => ?_, h.base⟩
  obtain ⟨h1, h2⟩ := h.at_ j hj
  cases hv : v.ownBlock with
  | none =>
    have hbl : Below w.heap.size w w' := ⟨hg.os, hg.tape, hg.output, hg.size, fun j hj => hg.block j hj (by rw [hv]; simp)⟩
    refine ⟨h1.below hbl, fun b hb' => ?_⟩
    rcases ha with ha | ⟨b0, hb0, hle⟩
    · rw [ha, hv] at hb'; cases hb'
    · rw [hb0] at hb'
      cases hb'
      exact (Far.fresh h1 hle).below hbl
  | some q =>
    have hq := h2 q hv
    have hbq : But q w w' := hb q (fun q' e => by rw [hv] at e; exact (Option.some.inj e).symm)
    refine ⟨(hq.but hbq).st, fun b hb' => ?_⟩
    rcases ha with ha | ⟨b0, hb0, hle⟩
    · rw [ha, hv] at hb'
      cases hb'
      exact hq.but hbq
    · rw [hb0] at hb'
      cases hb'
      refine ⟨(hq.but hbq).st, by have := h1.blk.lt; omega, ?_, ?_⟩
      · obtain ⟨kv, hm, _⟩ := h1.map
        have := hm.lt
        omega
      · exact (Far.fresh h1 hle).own.of_block (by
          obtain ⟨kv, hm, _⟩ := h1.map
          exact hbq.block _ hm.lt hq.nkm)
end Go.Proofs.YtfbkkcigkpffiaaDoor.St
