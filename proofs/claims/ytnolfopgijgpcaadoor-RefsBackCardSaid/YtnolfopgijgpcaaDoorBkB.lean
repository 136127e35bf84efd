/- The walk of the law RefsBack. -/
import Derived.Test.YtnolfopgijgpcaaDoorQf
import Derived.Test.YtnolfopgijgpcaaDoorBkA
import Derived.Deep.RegionHeld3
import Derived.Deep.CutBlock
namespace Go.Proofs.YtnolfopgijgpcaaDoor.Rm
open Go.Lib Go.RowKit Go.Proofs.YtnolfopgijgpcaaDoor.Nm Go.Proofs.YtnolfopgijgpcaaDoor.PRefsMapped Go.Proofs.YtnolfopgijgpcaaDoorW.PrintWords Go.Proofs.YtnolfopgijgpcaaDoorW.PrintLast Go.Proofs.YtnolfopgijgpcaaDoorW.PrintMore
set_option linter.unusedVariables false
set_option linter.unusedSimpArgs false

theorem Rok.up {M M' : Nat} {l : List S55} (h : Rok M l) (hM : M ≤ M') : Rok M' l := fun u hu => ⟨Nat.le_trans (h u hu).1 hM, Nat.le_trans (h u hu).2 hM⟩
/-- In every world that leaves w2 as it was: the box and a name. -/
def Sees (w2 : World) (kb : Nat) (u v : Value) (p : Addr) (n : ByteArray) : Prop :=
  ∀ w', Below w2.heap.size w2 w' → w'.cell? ⟨kb, 0, none⟩ = some u ∧ w'.cell? ⟨kb, 1, none⟩ = some v ∧ w'.cell? p = some (.string n) ∧ Below w2.heap.size w2 w'
theorem sees {w2 : World} {kb : Nat} {u v : Value} {p : Addr} {n : ByteArray} (hx : Boxed w2 kb u v) (h : w2.cell? p = some (.string n)) : Sees w2 kb u v p n :=
  fun w' hb => ⟨pw_cell_below hb hx.1, pw_cell_below hb hx.2.1, pw_cell_below hb h, hb⟩
theorem kp0 {w2 W : World} {kb : Nat} {u v : Value} {p : Addr} {n : ByteArray} (h : Sees w2 kb u v p n) (hb : Below w2.heap.size w2 W) :
    W.drew.cell? ⟨kb, 0, none⟩ = some u ∧ W.drew.cell? ⟨kb, 1, none⟩ = some v ∧ W.drew.cell? p = some (.string n) ∧ Below w2.heap.size w2 W.drew := h _ (pw_below_drewN hb 1)
theorem kp1 {w2 W w1 : World} {kb : Nat} {u v : Value} {p : Addr} {n : ByteArray} (h : Sees w2 kb u v p n) (hb : Below W.heap.size W w1)
    (hs : W.cell? ⟨kb, 0, none⟩ = some u ∧ W.cell? ⟨kb, 1, none⟩ = some v ∧ W.cell? p = some (.string n) ∧ Below w2.heap.size w2 W) :
    w1.cell? ⟨kb, 0, none⟩ = some u ∧ w1.cell? ⟨kb, 1, none⟩ = some v ∧ w1.cell? p = some (.string n) ∧ Below w2.heap.size w2 w1 := h _ (hs.2.2.2.trans (hb.mono hs.2.2.2.size))
theorem kp2 {w2 W : World} {kb : Nat} {u v : Value} {p : Addr} {n : ByteArray} {o : Obj} (h : Sees w2 kb u v p n)
    (hs : W.cell? ⟨kb, 0, none⟩ = some u ∧ W.cell? ⟨kb, 1, none⟩ = some v ∧ W.cell? p = some (.string n) ∧ Below w2.heap.size w2 W) :
    (W.alloc o).cell? ⟨kb, 0, none⟩ = some u ∧ (W.alloc o).cell? ⟨kb, 1, none⟩ = some v ∧ (W.alloc o).cell? p = some (.string n) ∧ Below w2.heap.size w2 (W.alloc o) := h _ (below_alloc hs.2.2.2 o)
/-- One rule, at its cells. -/
theorem C_one (u : S55) {w : World} {b : Nat} (h0 : w.cell? ⟨b, 0, none⟩ = some (.string u.f0)) (h1 : w.cell? ⟨b, 1, none⟩ = some (.string u.f1)) (h2 : w.cell? ⟨b, 2, none⟩ = some (.bool u.f2)) (h3 : w.cell? ⟨b, 3, none⟩ = some (.bool u.f3)) :
    Kd.C k55 w (some ⟨b, 0, none⟩) 1 [u] := by
  refine ⟨rfl, by simp, fun _ => ⟨_, rfl, fun j p hj => ?_⟩⟩
  have hj0 : j = 0 := by
    have := (List.getElem?_eq_some_iff.1 hj).1
    simpa using this
  subst hj0
  obtain rfl : u = p := by simpa using hj
  refine ⟨_, rfl, k55_mk w u, fun i v hv => ?_⟩
  match i, hv with
  | 0, hv => simp at hv; subst hv; exact h0
  | 1, hv => simp at hv; subst hv; exact h1
  | 2, hv => simp at hv; subst hv; exact h2
  | 3, hv => simp at hv; subst hv; exact h3
  | i + 4, hv => simp at hv
/-- The rule that has just been made, or was made ahead of a call. -/
theorem C_new1 {u : S55} {n : ByteArray} {w0 : World} (hu : u.f0 = n ∧ u.f1 = ⟨#[]⟩ ∧ u.f2 = false ∧ u.f3 = true) :
    Kd.C k55 (w0.alloc (.cells #[.string n, .string ⟨#[]⟩, .bool false, .bool true] 55)) (some ⟨w0.heap.size, 0, none⟩) 1 [u] := by
  refine C_one u ?_ ?_ ?_ ?_
  · rw [hu.1]; simp [go_sem]
  · rw [hu.2.1]; simp [go_sem]
  · rw [hu.2.2.1]; simp [go_sem]
  · rw [hu.2.2.2]; simp [go_sem]
theorem C_new2 {u : S55} {n : ByteArray} {w0 w : World} {b : Nat} (hu : u.f0 = n ∧ u.f1 = ⟨#[]⟩ ∧ u.f2 = false ∧ u.f3 = true)
    (hb : Below (w0.alloc (.cells #[.string n, .string ⟨#[]⟩, .bool false, .bool true] 55)).drew.heap.size (w0.alloc (.cells #[.string n, .string ⟨#[]⟩, .bool false, .bool true] 55)).drew w) (e : w0.heap.size = b) : Kd.C k55 w (some ⟨b, 0, none⟩) 1 [u] := by
  subst e
  exact Kd.C_below (Kd.C_below (C_new1 hu) (pw_below_drewN (Below.refl _ _) 1)) hb
def oneR : S55 := ⟨⟨#[97, 42]⟩, ⟨#[98, 42]⟩, true, false⟩
theorem one_map : mapL (rs [oneR]) (bl ⟨#[97, 122]⟩) = ([98, 122], true, true) := by decide +kernel
theorem one_cells {w0 w : World} (hb : Below (w0.alloc (.cells #[.string ⟨#[97, 42]⟩, .string ⟨#[98, 42]⟩, .bool true, .bool false] 55)).heap.size (w0.alloc (.cells #[.string ⟨#[97, 42]⟩, .string ⟨#[98, 42]⟩, .bool true, .bool false] 55)) w) : Kd.C k55 w (some ⟨w0.heap.size, 0, none⟩) 1 [oneR] := by
  refine Kd.C_below (C_one oneR ?_ ?_ ?_ ?_) hb <;> simp [go_sem, oneR]
theorem byte_star (n : ByteArray) (k : Nat) (h : k < n.size) : ((n[k]).toNat : Int) = 42 ↔ (bl n)[k]'(by rw [bl_length]; exact h) = 42 := by
  have e : (bl n)[k]'(by rw [bl_length]; exact h) = n[k] := by simp [bl]; rfl
  rw [e]
  constructor
  · intro h2
    exact UInt8.toNat_inj.1 (by have h3 : (42 : UInt8).toNat = 42 := rfl; omega)
  · intro h2; rw [h2]; rfl
theorem byte_eq {x : Int} {b : UInt8} (h : x = 42 ↔ b = 42) : (x == 42) = (b == 42) := by
  by_cases hb : b = 42
  · rw [hb, h.2 hb]; rfl
  · have hx : ¬ x = 42 := fun e => hb (h.1 e)
    rw [beq_eq_false_iff_ne.2 hx, beq_eq_false_iff_ne.2 hb]
theorem toR_not (n : ByteArray) : rs [(⟨n, ⟨#[]⟩, false, true⟩ : S55)] = [⟨bl n, bl ⟨#[]⟩, false, true⟩] := rfl
theorem rs_dst {M : Nat} {l : List S55} (h : Rok M l) : ∀ u ∈ rs l, u.dst.length ≤ M := fun u hu => by
  obtain ⟨v, hv, rfl⟩ := List.mem_map.1 hu
  show (bl v.f1).length ≤ M
  rw [bl_length]; exact (h v hv).2
theorem rs_src {M : Nat} {l : List S55} (h : Rok M l) : ∀ u ∈ rs l, u.src.length ≤ M := fun u hu => by
  obtain ⟨v, hv, rfl⟩ := List.mem_map.1 hu
  show (bl v.f0).length ≤ M
  rw [bl_length]; exact (h v hv).1
theorem rules_front {l : List S55} {x : S55} {b b2 : Nat} {w3 : World} {Ao : Option Addr} {co : Nat} (hR : Kd.R k55 55 w3 b (fun _ => True) (.slice Ao (l.length + 1) co) (l ++ [x])) (h2 : b2 ≤ b) : Kd.R k55 55 w3 b2 (fun _ => True) (.slice Ao l.length co) l := by
  have := Kd.R_take (m := l.length) (Kd.R_lower hR h2) (by simp)
  rwa [List.take_left] at this
theorem R_out {e b : Nat} {w w2 : World} {v : Value} {xs : List S55} (h : Kd.R k55 e w b (fun _ => True) v xs) (hb : Below w2.heap.size w2 w) : ∃ As cs, v = .slice As xs.length cs ∧ xs.length ≤ cs ∧ Below w2.heap.size w2 w ∧ Kd.C k55 w As xs.length xs := by
  obtain ⟨As, cs, rfl⟩ := Kd.R_slice h
  exact ⟨As, cs, rfl, (Kd.R_reads' h).2.1, hb, (Kd.R_reads' h).2.2⟩
theorem Rok_snoc {M : Nat} {l : List S55} {u : S55} (h : Rok M l) (h0 : u.f0.size ≤ M) (h1 : u.f1.size ≤ M) : Rok M (l ++ [u]) := fun v hv => by
  rcases List.mem_append.1 hv with hv | hv
  · exact h v hv
  · rw [List.mem_singleton.1 hv]; exact ⟨h0, h1⟩
/-- A star among the first k bytes. -/
def st (s : By) (k : Nat) : Bool := (s.take k).any (· == 42)
theorem st_zero (s : By) : st s 0 = false := by simp [st]
theorem st_succ (s : By) (k : Nat) (h : k < s.length) : st s (k + 1) = (st s k || s[k] == 42) := by
  unfold st
  rw [List.take_succ_eq_append_getElem h, List.any_append]
  simp
theorem any_pre : ∀ s : By, s.any (· == 42) = hasStar s
  | [] => rfl
  | a :: s => by
    have ih := any_pre s
    unfold hasStar pre at ih ⊢
    rw [List.any_cons, ih, List.takeWhile_cons]
    by_cases h : a = 42
    · subst h; simp [noStar]
    · have h2 : ¬ a.toNat = 42 := fun e => h (UInt8.toNat_inj.1 (by simpa using e))
      have h3 : (a == 42) = false := by simpa using h
      rw [h3]
      simp [h2, noStar]
theorem st_all (s : By) (k : Nat) (h : s.length ≤ k) : st s k = hasStar s := by unfold st; rw [List.take_of_length_le h, any_pre]
end Go.Proofs.YtnolfopgijgpcaaDoor.Rm
