/- A map with strings as keys, as its block holds it: the list of its entries in the order in which they came. Look-up, store, delete, len, a range's step. No program. -/
import Derived.Below
import Derived.Carry
import Derived.Maps.RangeRun
import Derived.MapKept
import Derived.Maps.Own
import Derived.Sort.Walk0
import Derived.Test.YtonecajkfbdnmaaPDiskRoomx0
import Derived.Lib.Hide
import Derived.Deep.RegionHeld3
namespace Go.Proofs.Ytonecajkfbdnmaa.Mp
open Go.ChangeMaps
open Go.MapKept (IsKey run_checkKey run_findKey heap_set bytes_beq)
set_option linter.unusedVariables false

abbrev KV := List (ByteArray × Value)
def kget : KV → ByteArray → Option Value
  | [], _ => none
  | (a, v) :: r, k => if a = k then some v else kget r k
def kput : KV → ByteArray → Value → KV
  | [], k, v => [(k, v)]
  | (a, x) :: r, k, v => if a = k then (a, v) :: r else (a, x) :: kput r k v
def kdel : KV → ByteArray → KV
  | [], _ => []
  | (a, x) :: r, k => if a = k then r else (a, x) :: kdel r k
def F (e : MapEntry) : Value × Value := (e.key, e.val)
def G (x : ByteArray × Value) : Value × Value := (.string x.1, x.2)
/-- Block b is a map of just these entries, in this order. -/
def SMap (w : World) (b : Nat) (kv : KV) : Prop :=
  ∃ es clock, w.heap[b]? = some (.map es clock) ∧ es.toList.map F = kv.map G ∧ (∀ e ∈ es.toList, e.born < clock) ∧ (es.toList.map (·.born)).Nodup

theorem isKey (k : ByteArray) : IsKey .string (.string k) := by simp [IsKey]
theorem sameNow_str (a b : ByteArray) : Instr.sameNow .string (.string a) (.string b) = some (decide (b = a)) := by
  show some (a == b) = _
  congr 1
  rw [Bool.eq_iff_iff, bytes_beq]
  simp [eq_comm]

theorem find_ix (k : ByteArray) : ∀ (l : List MapEntry) (kv : KV), l.map F = kv.map G →
    (kget kv k = none ∧ (∀ v, kput kv k v = kv ++ [(k, v)]) ∧ kdel kv k = kv ∧ ∀ i, Instr.findNow .string (.string k) l i = some none) ∨
    ∃ j v e, kget kv k = some v ∧ l[j]? = some e ∧ e.val = v ∧ e.key = .string k ∧ (∀ i, Instr.findNow .string (.string k) l i = some (some (i + j, v))) ∧
      (∀ v', (l.modify j (fun e => { e with key := .string k, val := v' })).map F = (kput kv k v').map G) ∧ (l.eraseIdx j).map F = (kdel kv k).map G
  | [], [], _ => .inl ⟨rfl, fun _ => rfl, rfl, fun _ => rfl⟩
  | [], _ :: _, h => by simp at h
  | _ :: _, [], h => by simp at h
  | e :: l, (a, x) :: kv, h => by
    simp only [List.map_cons, List.cons.injEq] at h
    obtain ⟨he, hl⟩ := h
    have hk : e.key = .string a := congrArg Prod.fst he
    have hx : e.val = x := congrArg Prod.snd he
    by_cases ha : a = k
    · subst ha
      right
      refine ⟨0, x, e, by simp [kget], rfl, hx, hk, fun i => ?_, fun v' => ?_, ?_⟩
      · simp [Instr.findNow, hk, sameNow_str, hx]
      · simp [kput, F, G]; exact hl
      · simp [kdel]; exact hl
    · rcases find_ix k l kv hl with ⟨h1, h2, h3, h4⟩ | ⟨j, v, e', h1, h2, h3, h4, h5, h6, h7⟩
      · left
        refine ⟨by simp [kget, ha, h1], fun v => by simp [kput, ha, h2], by simp [kdel, ha, h3], fun i => ?_⟩
        simp [Instr.findNow, hk, sameNow_str, ha, h4]
      · right
        refine ⟨j + 1, v, e', by simp [kget, ha, h1], by simpa using h2, h3, h4, fun i => ?_, fun v' => ?_, ?_⟩
        · simp [Instr.findNow, hk, sameNow_str, ha, h5]; omega
        · simp only [List.modify_succ_cons, List.map_cons, kput, ha, if_false]; rw [h6, he]
        · simp only [List.eraseIdx_cons_succ, List.map_cons, kdel, ha, if_false]; rw [h7, he]

theorem modify_same {α β : Type} (g : α → β) (j : Nat) (f : α → α) (h : ∀ e, g (f e) = g e) (l : List α) : (l.modify j f).map g = l.map g := by
  induction l generalizing j with
  | nil => simp
  | cons a r ih =>
    cases j with
    | zero => simp [h]
    | succ j => simp [ih j]

section
variable {P : Program} {w : World} {b : Nat} {kv : KV} {T K E : TypeId}

theorem SMap.lt (h : SMap w b kv) : b < w.heap.size := by
  obtain ⟨es, c, hb, _⟩ := h
  exact (Array.getElem?_eq_some_iff.1 hb).1
theorem SMap.of_block {w' : World} (h : SMap w b kv) (e : w'.heap[b]? = w.heap[b]?) : SMap w' b kv := by
  obtain ⟨es, c, hb, r⟩ := h
  exact ⟨es, c, e.trans hb, r⟩
theorem SMap.made (w : World) : SMap (w.alloc (.map #[] 0)) w.heap.size [] := ⟨#[], 0, (MapKept.heap_alloc w _).1, rfl, by simp, by simp⟩

theorem SMap.lookup (h : SMap w b kv) (hT : P.underlying T = some (.map K E)) (hK : P.underlying K = some .string) {z : Value} (hz : (zeroValue E).run P w = .ok z w) (k : ByteArray) (c : Bool) :
    (Instr.lookup T (.map (some b)) (.string k) c).run P w = .ok (if c then .tuple #[(kget kv k).getD z, .bool (kget kv k).isSome] else (kget kv k).getD z) w := by
  obtain ⟨es, clock, hb, hm, _⟩ := h
  have h1 : (Instr.checkKey es.isEmpty 10000 K (.string k)).run P w = .ok () w := run_checkKey (P := P) (w := w) hK (isKey k) es.isEmpty 9999
  rcases find_ix k es.toList kv hm with ⟨g1, _, _, g4⟩ | ⟨j, v, e, g1, _, _, _, g5, _, _⟩
  · have h2 := run_findKey (P := P) (w := w) hK (g4 0)
    simp [Instr.lookup, run_underlying hT, MapKept.run_getObj_map (P := P) hb, Result.andThen, h1, h2, hz, g1]
  · have h2 := run_findKey (P := P) (w := w) hK (g5 0)
    simp [Instr.lookup, run_underlying hT, MapKept.run_getObj_map (P := P) hb, Result.andThen, h1, h2, g1]

theorem SMap.update (h : SMap w b kv) (hT : P.underlying T = some (.map K E)) (hK : P.underlying K = some .string) (k : ByteArray) (v : Value) :
    ∃ o, (Instr.mapUpdate T (.map (some b)) (.string k) v).run P w = .ok () (setBlock w b o) ∧ SMap (setBlock w b o) b (kput kv k v) := by
  have hlt := h.lt
  obtain ⟨es, clock, hb, hm, hborn, hnd⟩ := h
  have h1 : (Instr.checkKey false 10000 K (.string k)).run P w = .ok () w := run_checkKey (P := P) (w := w) hK (isKey k) false 9999
  rcases find_ix k es.toList kv hm with ⟨g1, g2, _, g4⟩ | ⟨j, v0, e, g1, ge, _, gk, g5, g6, _⟩
  · have h2 := run_findKey (P := P) (w := w) hK (g4 0)
    refine ⟨.map (es.push { key := .string k, val := v, born := clock }) (clock + 1), ?_, _, _, (heap_set hb).1, ?_, ?_, ?_⟩
    · simp [Instr.mapUpdate, run_underlying hT, MapKept.run_getObj_map (P := P) hb, Result.andThen, h1, h2, MapKept.run_setObj_map (P := P) _ hb, setBlock]
    · rw [g2]; simp [hm, F, G]
    · intro e he
      simp at he
      rcases he with he | rfl
      · have := hborn e (by simpa using he); omega
      · simp
    · simp only [Array.toList_push, List.map_append, List.map_cons, List.map_nil]
      rw [List.nodup_append]
      refine ⟨hnd, by simp, ?_⟩
      intro x hx y hy
      simp at hy
      subst hy
      obtain ⟨e, he, rfl⟩ := List.mem_map.1 hx
      have := hborn e he
      omega
  · have h2 := run_findKey (P := P) (w := w) hK (g5 0)
    have hj : es[j]? = some e := by rw [← Array.getElem?_toList]; exact ge
    have hstay : (Instr.keyThatStays (.string k) (.string k)).run P w = .ok (.string k) w := by
      simp [Instr.keyThatStays, Instr.sameBits, bytes_beq]
    refine ⟨.map (es.modify j fun e => { e with key := .string k, val := v }) clock, ?_, _, _, (heap_set hb).1, ?_, ?_, ?_⟩
    · simp only [Instr.mapUpdate, Sem.run_bind, run_underlying hT, MapKept.run_getObj_map (P := P) hb, Result.andThen, h1, h2, Nat.zero_add, hj, Option.map_some, Option.getD_some, gk, hstay]
      simp [MapKept.run_setObj_map (P := P) _ hb, setBlock]
    · rw [Array.toList_modify]; exact g6 v
    · intro x hx
      rw [Array.toList_modify] at hx
      have : x.born ∈ (es.toList.modify j fun e => { e with key := .string k, val := v }).map (·.born) := List.mem_map_of_mem hx
      rw [modify_same MapEntry.born j (fun e => { e with key := .string k, val := v }) (fun _ => rfl)] at this
      obtain ⟨y, hy, e1⟩ := List.mem_map.1 this
      rw [← e1]; exact hborn y hy
    · rw [Array.toList_modify, modify_same MapEntry.born j (fun e => { e with key := .string k, val := v }) (fun _ => rfl)]; exact hnd

/-- A store, at the operation. -/
theorem wpList_put {ops : Array Oper} {rest : List Oper} {o : Oper} {a : Act} {Q : Exit → Act → World → Prop} (h : SMap w b kv)
    (hg : o.guard = none) (m x v : Operand) (T : TypeId) (hop : o.op = Op.mapUpdate T m x v) (hT : P.underlying T = some (.map K E)) (hK : P.underlying K = some .string)
    (hm : a.eval m = .map (some b)) (k : ByteArray) (val : Value) (hx : a.eval x = .string k) (hv : a.eval v = val)
    (hn : ∀ w', SMap w' b (kput kv k val) → w.grownBy w' (some b) → wpList P ops Q rest (a.put o.dst undef) w') : wpList P ops Q (o :: rest) a w := by
  refine wpList_plain hg fun K' hK' => ?_
  obtain ⟨ob, hrun, r1⟩ := h.update hT hK k val
  obtain ⟨es, clock, hb, _⟩ := h
  unfold Oper.wp
  simp [execOp, hop, hm, hx, hv, hrun, Result.andThen]
  exact hK' _ _ (hn _ r1 ⟨rfl, rfl, rfl, by simp [setBlock], fun i _ hi => (heap_set hb).2 i (fun e => hi (by rw [e]))⟩)
end
end Go.Proofs.Ytonecajkfbdnmaa.Mp

namespace Go.Proofs.Ytonecajkfbdnmaa.Dk
set_option linter.unusedVariables false
abbrev By := List UInt8
def bl (s : ByteArray) : By := s.data.toList
theorem bl_inj {a b : ByteArray} (h : bl a = bl b) : a = b := by
  cases a with | mk a => cases b with | mk b =>
    have h' : a.toList = b.toList := h
    rw [Array.toList_inj.1 h']
/-! ### sorted lists of names -/
abbrev AM := List (ByteArray × Nat)
def aget : AM → ByteArray → Option Nat
  | [], _ => none
  | (a, f) :: r, k => if a = k then some f else aget r k
def aput : AM → ByteArray → Nat → AM
  | [], k, v => [(k, v)]
  | (a, f) :: r, k, v => if a = k then (a, v) :: r else if bl k < bl a then (k, v) :: (a, f) :: r else (a, f) :: aput r k v
def adel : AM → ByteArray → AM
  | [], _ => []
  | (a, f) :: r, k => if a = k then r else (a, f) :: adel r k
def Srt (m : AM) : Prop := m.Pairwise (fun x y => bl x.1 < bl y.1)
theorem lt_irrefl (a : By) : ¬ a < a := List.lt_irrefl a
theorem lt_ne {a b : ByteArray} (h : bl a < bl b) : a ≠ b := fun e => by rw [e] at h; exact lt_irrefl _ h
theorem tri (a b : ByteArray) (h : a ≠ b) (h1 : ¬ bl a < bl b) : bl b < bl a := by
  by_cases h2 : bl b < bl a
  · exact h2
  · exact absurd (bl_inj (List.le_antisymm (List.not_lt.1 h2) (List.not_lt.1 h1))) h
theorem aget_lt {m : AM} {k : ByteArray} (h : ∀ x ∈ m, bl k < bl x.1) : aget m k = none := by
  induction m with
  | nil => rfl
  | cons x r ih =>
    obtain ⟨a, f⟩ := x
    have h1 := h (a, f) (by simp)
    unfold aget
    rw [if_neg (fun e => by rw [e] at h1; exact lt_irrefl _ h1)]
    exact ih (fun y hy => h y (by simp [hy]))
theorem aget_put (m : AM) (k : ByteArray) (v : Nat) (j : ByteArray) : aget (aput m k v) j = if k = j then some v else aget m j := by
  induction m with
  | nil => simp [aput, aget]
  | cons x r ih =>
    obtain ⟨a, f⟩ := x
    unfold aput
    by_cases h1 : a = k
    · rw [if_pos h1]; subst h1
      by_cases h2 : a = j <;> simp [aget, h2]
    · rw [if_neg h1]
      by_cases h2 : bl k < bl a
      · rw [if_pos h2]
        by_cases h3 : k = j <;> simp [aget, h3]
      · rw [if_neg h2]
        simp only [aget]
        rw [ih]
        by_cases h3 : a = j
        · subst h3; simp; exact fun e => absurd e.symm h1
        · simp [h3]
theorem mem_put {m : AM} {k : ByteArray} {v : Nat} {x : ByteArray × Nat} (h : x ∈ aput m k v) : x = (k, v) ∨ x ∈ m := by
  induction m with
  | nil => simp [aput] at h; exact .inl h
  | cons y r ih =>
    obtain ⟨a, f⟩ := y
    unfold aput at h
    split at h
    · rename_i e
      rcases List.mem_cons.1 h with h | h
      · left; rw [h, e]
      · exact .inr (by simp [h])
    · split at h
      · rcases List.mem_cons.1 h with h | h
        · exact .inl h
        · exact .inr h
      · rcases List.mem_cons.1 h with h | h
        · exact .inr (by simp [h])
        · rcases ih h with h | h
          · exact .inl h
          · exact .inr (by simp [h])
theorem srt_put {m : AM} (h : Srt m) (k : ByteArray) (v : Nat) : Srt (aput m k v) := by
  induction m with
  | nil => exact List.pairwise_singleton _ _
  | cons y r ih =>
    obtain ⟨a, f⟩ := y
    have h' := List.pairwise_cons.1 h
    unfold aput
    split
    · exact List.pairwise_cons.2 ⟨h'.1, h'.2⟩
    · rename_i h1
      split
      · rename_i h2
        exact List.pairwise_cons.2 ⟨fun y hy => by
          rcases List.mem_cons.1 hy with rfl | hy
          · exact h2
          · exact List.lt_trans h2 (h'.1 y hy), h⟩
      · rename_i h2
        refine List.pairwise_cons.2 ⟨fun y hy => ?_, ih h'.2⟩
        rcases mem_put hy with rfl | hy
        · exact tri k a (fun e => h1 e.symm) h2
        · exact h'.1 y hy
theorem mem_del {m : AM} {k : ByteArray} {x : ByteArray × Nat} (h : x ∈ adel m k) : x ∈ m := by
  induction m with
  | nil => simp [adel] at h
  | cons y r ih =>
    obtain ⟨a, f⟩ := y
    unfold adel at h
    split at h
    · simp [h]
    · rcases List.mem_cons.1 h with h | h
      · simp [h]
      · simp [ih h]
theorem srt_del {m : AM} (h : Srt m) (k : ByteArray) : Srt (adel m k) := by
  induction m with
  | nil => exact List.Pairwise.nil
  | cons y r ih =>
    obtain ⟨a, f⟩ := y
    have h' := List.pairwise_cons.1 h
    unfold adel
    split
    · exact h'.2
    · exact List.pairwise_cons.2 ⟨fun y hy => h'.1 y (mem_del hy), ih h'.2⟩
theorem aget_del {m : AM} (h : Srt m) (k j : ByteArray) : aget (adel m k) j = if k = j then none else aget m j := by
  induction m with
  | nil => simp [adel, aget]
  | cons y r ih =>
    obtain ⟨a, f⟩ := y
    have h' := List.pairwise_cons.1 h
    unfold adel
    by_cases h1 : a = k
    · rw [if_pos h1]; subst h1
      by_cases h2 : a = j
      · subst h2; simp only [if_true]; exact aget_lt h'.1
      · simp [aget, h2]
    · rw [if_neg h1]
      simp only [aget]
      rw [ih h'.2]
      by_cases h3 : a = j
      · subst h3; simp; exact fun e => absurd e.symm h1
      · simp [h3]
theorem mem_aget {m : AM} (h : Srt m) (k : ByteArray) (v : Nat) : (k, v) ∈ m ↔ aget m k = some v := by
  induction m with
  | nil => simp [aget]
  | cons y r ih =>
    obtain ⟨a, f⟩ := y
    have h' := List.pairwise_cons.1 h
    rw [List.mem_cons]
    unfold aget
    by_cases h1 : a = k
    · subst h1
      rw [if_pos rfl]
      constructor
      · rintro (e | e)
        · rw [(Prod.mk.inj e).2]
        · exact absurd (h'.1 _ e) (lt_irrefl _)
      · intro e; left; rw [Option.some.inj e]
    · rw [if_neg h1, ← ih h'.2]
      constructor
      · rintro (e | e)
        · exact absurd (Prod.mk.inj e).1.symm h1
        · exact e
      · exact .inr
theorem del_len {m : AM} {k : ByteArray} {v : Nat} (h : aget m k = some v) : (adel m k).length + 1 = m.length := by
  induction m with
  | nil => cases h
  | cons y r ih =>
    obtain ⟨a, f⟩ := y
    unfold aget at h
    unfold adel
    by_cases h1 : a = k
    · rw [if_pos h1]; rfl
    · rw [if_neg h1] at h ⊢
      simp [ih h]
theorem put_len {m : AM} (k : ByteArray) (v : Nat) : (aput m k v).length = m.length + (if (aget m k).isSome then 0 else 1) ∨ ¬ Srt m := by
  induction m with
  | nil => left; simp [aput, aget]
  | cons y r ih =>
    obtain ⟨a, f⟩ := y
    by_cases hs : Srt ((a, f) :: r)
    · left
      have h' := List.pairwise_cons.1 hs
      unfold aput aget
      by_cases h1 : a = k
      · rw [if_pos h1, if_pos h1]; simp
      · rw [if_neg h1, if_neg h1]
        by_cases h2 : bl k < bl a
        · rw [if_pos h2, aget_lt (fun x hx => List.lt_trans h2 (h'.1 x hx))]; simp
        · rw [if_neg h2]
          rcases ih with ih | ih
          · simp [ih]; omega
          · exact absurd h'.2 ih
    · exact .inr hs

/-! ### files and disks -/
inductive Un
  | add (b : UInt8)
  | cut (n : Nat)
def Un.play (s : By) : Un → By
  | .add b => s ++ [b]
  | .cut n => s.take n
/-- Can the unit be played upon s? -/
def Un.ok (s : By) : Un → Prop
  | .add _ => True
  | .cut n => n ≤ s.length
structure Fl where
  kept : By
  units : List Un
  seen : By
def unplay (s : By) (l : List Un) : By := l.foldl Un.play s
def UnOk : By → List Un → Prop
  | _, [] => True
  | s, u :: l => u.ok s ∧ UnOk (u.play s) l
def Fl.ok (f : Fl) : Prop := UnOk f.kept f.units ∧ f.seen = unplay f.kept f.units
inductive Ch
  | makes (n : ByteArray) (f : Nat)
  | renames (a b : ByteArray)
  | removes (a : ByteArray)
def Ch.play (m : AM) : Ch → AM
  | .makes n f => aput m n f
  | .renames a b => match aget m a with
    | some f => adel (aput m b f) a
    | none => m
  | .removes a => adel m a
def Ch.ok (m : AM) : Ch → Prop
  | .makes n _ => aget m n = none
  | .renames a b => a ≠ b ∧ ∃ f, aget m a = some f
  | .removes a => ∃ f, aget m a = some f
def chplay (m : AM) (l : List Ch) : AM := l.foldl Ch.play m
def ChOk : AM → List Ch → Prop
  | _, [] => True
  | m, c :: l => c.ok m ∧ ChOk (c.play m) l
structure Pl where
  off : Int
  from_ : Int
  to_ : Int
structure Dk where
  room : Nat
  off : Bool
  names : AM
  sure : AM
  changes : List Ch
  strokes : Nat
  count : Nat
  plan : Pl
  files : List Fl
/-! ### the calls -/
def fairC (c : UInt8) : Bool := (decide (97 ≤ c.toNat) && decide (c.toNat ≤ 122)) || (decide (48 ≤ c.toNat) && decide (c.toNat ≤ 57)) || c == 46 || c == 45 || c == 95
def fair (n : ByteArray) : Bool := (bl n).all fairC && (decide (1 ≤ n.size) && decide (n.size ≤ 64))
namespace Dk
def find (d : Dk) (n : ByteArray) : Option Nat × Nat :=
  if d.off then (none, 115) else if fair n then (match aget d.names n with | some f => (some f, 0) | none => (none, 112)) else (none, 111)
def tick (d : Dk) : Dk := { d with strokes := d.strokes + 1, count := d.count + 1, off := decide ((d.count : Int) + 1 = d.plan.off) }
def told (d : Dk) : Nat := if d.off then 115 else 0
def file (d : Dk) (f : Nat) : Fl := d.files.getD f ⟨[], [], []⟩
def used (d : Dk) : Nat := (d.names.map (fun x => (d.file x.2).seen.length)).sum
def change (d : Dk) (c : Ch) : Dk := { d with changes := d.changes ++ [c], names := c.play d.names }
def setFile (d : Dk) (f : Nat) (g : Fl → Fl) : Dk := { d with files := d.files.modify f g }
def planFull (d : Dk) : Bool := decide (d.plan.from_ ≤ d.count) && (decide ((d.count : Int) ≤ d.plan.to_) && decide (0 < d.plan.from_))
def give (b : By) (x : Fl) : Fl := { x with units := x.units ++ b.map .add, seen := x.seen ++ b }
def fresh (d : Dk) : Dk := { d with files := d.files ++ [⟨[], [], []⟩] }
def append (d : Dk) (n : ByteArray) (b : By) : Dk × Nat :=
  match d.find n with
  | (o, e) =>
    if e ≠ 0 ∧ e ≠ 112 then (d, e)
    else if e = 112 ∧ 64 ≤ d.names.length then (d, 111)
    else if d.tick.planFull = true ∨ d.room - d.used < b.length then (d.tick, if d.tick.off then 115 else 114)
    else match o with
      | some f => (d.tick.setFile f (give b), d.tick.told)
      | none => ((d.tick.fresh.change (.makes n d.files.length)).setFile d.files.length (give b), d.tick.told)
def cutF (n : Nat) (x : Fl) : Fl := if n < x.seen.length then { x with units := x.units ++ [.cut n], seen := x.seen.take n } else x
def cut (d : Dk) (n : ByteArray) (k : Int) : Dk × Nat :=
  match d.find n with
  | (some f, _) => if 0 ≤ k ∧ k ≤ (d.file f).seen.length then (d.tick.setFile f (cutF k.toNat), d.tick.told) else (d, 113)
  | (none, e) => (d, e)
def syncF (x : Fl) : Fl := { x with kept := x.seen, units := [] }
def sync (d : Dk) (n : ByteArray) : Dk × Nat :=
  match d.find n with
  | (some f, _) => (if d.tick.off then d.tick else d.tick.setFile f syncF, d.tick.told)
  | (none, e) => (d, e)
def syncNames (d : Dk) : Dk × Nat :=
  if d.off then (d, 115) else (if d.tick.off then d.tick else { d.tick with sure := chplay d.sure d.changes, changes := [] }, d.tick.told)
def rename (d : Dk) (a b : ByteArray) : Dk × Nat :=
  match d.find a with
  | (o, e) =>
    if e = 115 ∨ e = 111 then (d, e)
    else if fair b = false then (d, 111)
    else if e ≠ 0 then (d, e)
    else ((if a = b then d.tick else d.tick.change (.renames a b)), d.tick.told)
def remove (d : Dk) (n : ByteArray) : Dk × Nat :=
  match d.find n with
  | (some _, _) => (d.tick.change (.removes n), d.tick.told)
  | (none, e) => (d, e)
def image (d : Dk) : List (ByteArray × By) := d.names.map (fun x => (x.1, (d.file x.2).seen))
/-- What holds of a disk always. -/
structure Ok (d : Dk) : Prop where
  sn : Srt d.names
  ss : Srt d.sure
  play : d.names = chplay d.sure d.changes
  chs : ChOk d.sure d.changes
  lt : ∀ x ∈ d.names, x.2 < d.files.length
  lts : ∀ x ∈ d.sure, x.2 < d.files.length
  ltc : ∀ n f, Ch.makes n f ∈ d.changes → f < d.files.length
  nd : (d.names.map (·.2)).Nodup
  fl : ∀ f ∈ d.files, f.ok
  few : d.names.length ≤ 64
  room : d.used ≤ d.room
end Dk
theorem unplay_snoc (s : By) (l : List Un) (u : Un) : unplay s (l ++ [u]) = u.play (unplay s l) := by simp [unplay]
theorem unplay_append (s : By) (l m : List Un) : unplay s (l ++ m) = unplay (unplay s l) m := by simp [unplay]
theorem unok_append : ∀ (l m : List Un) (s : By), UnOk s (l ++ m) ↔ UnOk s l ∧ UnOk (unplay s l) m
  | [], m, s => by simp [UnOk, unplay]
  | u :: l, m, s => by
    have ih := unok_append l m (u.play s)
    simp only [List.cons_append, UnOk, ih]
    exact ⟨fun ⟨a, b, c⟩ => ⟨⟨a, b⟩, c⟩, fun ⟨⟨a, b⟩, c⟩ => ⟨a, b, c⟩⟩
theorem adds_play : ∀ (b s : By), unplay s (b.map .add) = s ++ b
  | [], s => by simp [unplay]
  | c :: b, s => by
    have := adds_play b (s ++ [c])
    simp only [List.map_cons, unplay, List.foldl_cons] at this ⊢
    rw [show Un.play s (.add c) = s ++ [c] from rfl, this]
    simp
theorem adds_ok : ∀ (b s : By), UnOk s (b.map .add)
  | [], s => trivial
  | c :: b, s => ⟨trivial, adds_ok b _⟩
theorem give_ok {x : Fl} (h : x.ok) (b : By) : (Dk.give b x).ok :=
  ⟨(unok_append _ _ _).2 ⟨h.1, adds_ok b _⟩, by show x.seen ++ b = unplay x.kept (x.units ++ b.map .add); rw [unplay_append, ← h.2, adds_play]⟩
theorem cut_ok {x : Fl} (h : x.ok) (n : Nat) : (Dk.cutF n x).ok := by
  unfold Dk.cutF
  split
  · rename_i hn
    refine ⟨(unok_append _ _ _).2 ⟨h.1, ⟨?_, trivial⟩⟩, ?_⟩
    · show n ≤ _; rw [← h.2]; omega
    · show x.seen.take n = _; rw [unplay_snoc, ← h.2]; rfl
  · exact h
theorem sync_ok (x : Fl) : (Dk.syncF x).ok := ⟨trivial, rfl⟩
theorem chplay_snoc (m : AM) (l : List Ch) (c : Ch) : chplay m (l ++ [c]) = c.play (chplay m l) := by simp [chplay]
theorem chok_snoc : ∀ (l : List Ch) (c : Ch) (m : AM), ChOk m (l ++ [c]) ↔ ChOk m l ∧ c.ok (chplay m l)
  | [], c, m => by simp [ChOk, chplay]
  | u :: l, c, m => by
    have ih := chok_snoc l c (u.play m)
    simp only [List.cons_append, ChOk, ih]
    exact ⟨fun ⟨a, b, c⟩ => ⟨⟨a, b⟩, c⟩, fun ⟨⟨a, b⟩, c⟩ => ⟨a, b, c⟩⟩
theorem Ch.srt {m : AM} (h : Srt m) (c : Ch) : Srt (c.play m) := by
  cases c with
  | makes n f => exact srt_put h n f
  | renames a b =>
    show Srt (match aget m a with | some f => adel (aput m b f) a | none => m)
    cases aget m a with
    | none => exact h
    | some f => exact srt_del (srt_put h b f) a
  | removes a => exact srt_del h a
end Go.Proofs.Ytonecajkfbdnmaa.Dk

namespace Go.Proofs.Ytonecajkfbdnmaa.Dk
open Go.Lib Go.RowKit Go.Proofs.Ytonecajkfbdnmaa.Mp Go.Proofs.YtonecajkfbdnmaaW.PrintWords
set_option linter.unusedVariables false

/-! ### a map of names, whatever the order in which its entries lie -/
def ptr (b : Nat) : Value := .pointer (some ⟨b, 0, none⟩)
def KvIs (kv : KV) (m : AM) (blk : Nat → Nat) : Prop := (kv.map (·.1)).Nodup ∧ ∀ k, kget kv k = (aget m k).map (fun f => ptr (blk f))
theorem get_put (k : ByteArray) (v : Value) (k' : ByteArray) : ∀ kv : KV, kget (kput kv k v) k' = if k = k' then some v else kget kv k'
  | [] => by simp [kput, kget]
  | (a, x) :: r => by
    have ih := get_put k v k' r
    by_cases h : a = k
    · subst h
      simp only [kput, if_true, kget]
      by_cases h2 : a = k' <;> simp [h2]
    · simp only [kput, if_neg h, kget]
      rw [ih]
      by_cases h2 : a = k'
      · subst h2; simp; exact fun e => absurd e.symm h
      · simp [h2]
theorem keys_put (k : ByteArray) (v : Value) : ∀ kv : KV, ∀ x, x ∈ (kput kv k v).map (·.1) → x = k ∨ x ∈ kv.map (·.1)
  | [], x, h => by simp [kput] at h; exact .inl h
  | (a, y) :: r, x, h => by
    unfold kput at h
    split at h
    · right; simpa using h
    · rw [List.map_cons, List.mem_cons] at h
      rcases h with h | h
      · right; simp [h]
      · rcases keys_put k v r x h with h | h
        · exact .inl h
        · right; simp at h ⊢; exact .inr h
theorem nodup_put (k : ByteArray) (v : Value) : ∀ kv : KV, (kv.map (·.1)).Nodup → ((kput kv k v).map (·.1)).Nodup
  | [], _ => by simp [kput]
  | (a, y) :: r, h => by
    rw [List.map_cons, List.nodup_cons] at h
    unfold kput
    by_cases e : a = k
    · rw [if_pos e, List.map_cons, List.nodup_cons]; exact h
    · rw [if_neg e, List.map_cons, List.nodup_cons]
      refine ⟨fun hx => ?_, nodup_put k v r h.2⟩
      rcases keys_put k v r _ hx with hx | hx
      · exact e hx
      · exact h.1 hx
theorem keys_del (k : ByteArray) : ∀ kv : KV, ∀ x, x ∈ (kdel kv k).map (·.1) → x ∈ kv.map (·.1)
  | [], x, h => by simp [kdel] at h
  | (a, y) :: r, x, h => by
    unfold kdel at h
    split at h
    · simp at h ⊢; exact .inr h
    · rw [List.map_cons, List.mem_cons] at h
      rcases h with h | h
      · simp [h]
      · have := keys_del k r x h; simp at this ⊢; exact .inr this
theorem nodup_del (k : ByteArray) : ∀ kv : KV, (kv.map (·.1)).Nodup → ((kdel kv k).map (·.1)).Nodup
  | [], _ => by simp [kdel]
  | (a, y) :: r, h => by
    rw [List.map_cons, List.nodup_cons] at h
    unfold kdel
    by_cases e : a = k
    · rw [if_pos e]; exact h.2
    · rw [if_neg e, List.map_cons, List.nodup_cons]
      exact ⟨fun hx => h.1 (keys_del k r _ hx), nodup_del k r h.2⟩
theorem get_none {kv : KV} {k : ByteArray} (h : k ∉ kv.map (·.1)) : kget kv k = none := by
  induction kv with
  | nil => rfl
  | cons x r ih =>
    obtain ⟨a, v⟩ := x
    rw [List.map_cons, List.mem_cons, not_or] at h
    unfold kget
    rw [if_neg (fun e => h.1 e.symm), ih h.2]
theorem get_del {kv : KV} (h : (kv.map (·.1)).Nodup) (k k' : ByteArray) : kget (kdel kv k) k' = if k = k' then none else kget kv k' := by
  induction kv with
  | nil => simp [kdel, kget]
  | cons x r ih =>
    obtain ⟨a, v⟩ := x
    rw [List.map_cons, List.nodup_cons] at h
    unfold kdel
    by_cases e : a = k
    · rw [if_pos e]; subst e
      by_cases e2 : a = k'
      · subst e2; simp only [if_true]; exact get_none h.1
      · simp [kget, e2]
    · rw [if_neg e]
      simp only [kget]
      rw [ih h.2]
      by_cases e2 : a = k'
      · subst e2; simp; exact fun q => absurd q.symm e
      · simp [e2]
theorem KvIs.put {kv : KV} {m : AM} {blk : Nat → Nat} (h : KvIs kv m blk) (k : ByteArray) (f : Nat) : KvIs (kput kv k (ptr (blk f))) (aput m k f) blk :=
  ⟨nodup_put k _ kv h.1, fun j => by
    rw [get_put, aget_put]
    by_cases e : k = j
    · rw [if_pos e, if_pos e]; rfl
    · rw [if_neg e, if_neg e, h.2]⟩
theorem KvIs.del {kv : KV} {m : AM} {blk : Nat → Nat} (h : KvIs kv m blk) (hs : Srt m) (k : ByteArray) : KvIs (kdel kv k) (adel m k) blk :=
  ⟨nodup_del k kv h.1, fun j => by
    rw [get_del h.1, aget_del hs]
    by_cases e : k = j
    · rw [if_pos e, if_pos e]; rfl
    · rw [if_neg e, if_neg e, h.2]⟩
theorem KvIs.nil (blk : Nat → Nat) : KvIs [] [] blk := ⟨by simp, fun k => rfl⟩
theorem mem_get {kv : KV} (h : (kv.map (·.1)).Nodup) (k : ByteArray) (v : Value) : (k, v) ∈ kv ↔ kget kv k = some v := by
  induction kv with
  | nil => simp [kget]
  | cons x r ih =>
    obtain ⟨a, u⟩ := x
    rw [List.map_cons, List.nodup_cons] at h
    rw [List.mem_cons]
    unfold kget
    by_cases e : a = k
    · subst e
      rw [if_pos rfl]
      constructor
      · rintro (q | q)
        · rw [(Prod.mk.inj q).2]
        · exact absurd (List.mem_map_of_mem (f := (·.1)) q) h.1
      · intro q; left; rw [Option.some.inj q]
    · rw [if_neg e, ← ih h.2]
      constructor
      · rintro (q | q)
        · exact absurd (Prod.mk.inj q).1.symm e
        · exact q
      · exact .inr
theorem nodup_of_keys {α β : Type} : ∀ l : List (α × β), (l.map (·.1)).Nodup → l.Nodup
  | [], _ => List.nodup_nil
  | x :: r, h => by
    rw [List.map_cons, List.nodup_cons] at h
    exact List.nodup_cons.2 ⟨fun q => h.1 (List.mem_map_of_mem (f := (·.1)) q), nodup_of_keys r h.2⟩
theorem srt_nodup {m : AM} (h : Srt m) : (m.map (·.1)).Nodup := by
  induction m with
  | nil => simp
  | cons x r ih =>
    have h' := List.pairwise_cons.1 h
    rw [List.map_cons, List.nodup_cons]
    refine ⟨fun q => ?_, ih h'.2⟩
    obtain ⟨y, hy, e⟩ := List.mem_map.1 q
    exact lt_ne (h'.1 y hy) e.symm
def encM (blk : Nat → Nat) (x : ByteArray × Nat) : ByteArray × Value := (x.1, ptr (blk x.2))
/-- The entries are those of the sorted list, in some order. -/
theorem KvIs.perm {kv : KV} {m : AM} {blk : Nat → Nat} (h : KvIs kv m blk) (hs : Srt m) : kv.Perm (m.map (encM blk)) := by
  have hk : ((m.map (encM blk)).map (·.1)).Nodup := by rw [List.map_map]; exact srt_nodup hs
  refine (List.perm_ext_iff_of_nodup (nodup_of_keys _ h.1) (nodup_of_keys _ hk)).2 fun x => ?_
  obtain ⟨k, v⟩ := x
  rw [mem_get h.1, h.2, List.mem_map]
  constructor
  · intro e
    obtain ⟨f, hf, rfl⟩ := Option.map_eq_some_iff.1 e
    exact ⟨(k, f), (mem_aget hs k f).2 hf, rfl⟩
  · rintro ⟨⟨a, f⟩, hm, e⟩
    obtain ⟨rfl, rfl⟩ := Prod.mk.inj e
    rw [(mem_aget hs a f).1 hm]; rfl
theorem KvIs.len {kv : KV} {m : AM} {blk : Nat → Nat} (h : KvIs kv m blk) (hs : Srt m) : kv.length = m.length := by
  rw [(h.perm hs).length_eq, List.length_map]
end Go.Proofs.Ytonecajkfbdnmaa.Dk

namespace Go.Proofs.Ytonecajkfbdnmaa.Dk
open Go.Lib Go.RowKit Go.Proofs.Ytonecajkfbdnmaa.Mp Go.Proofs.YtonecajkfbdnmaaW.PrintWords Go.Proofs.Ytonecajkfbdnmaa.PDiskRoom
set_option linter.unusedVariables false

inductive Role
  | disk | names | sure | changes
  | file (f : Nat) | kept (f : Nat) | units (f : Nat) | seen (f : Nat)
  deriving DecidableEq
abbrev Own := Nat → Option Role
/-- What has no role stays as it was, and gets none. -/
structure Fr (own own' : Own) (w w' : World) : Prop where
  os : w'.os = w.os
  tape : w'.tape = w.tape
  output : w'.output = w.output
  size : w.heap.size ≤ w'.heap.size
  block : ∀ k, k < w.heap.size → own k = none → w'.heap[k]? = w.heap[k]?
  new : ∀ k, k < w.heap.size → own k = none → own' k = none
theorem Fr.refl (own : Own) (w : World) : Fr own own w w := ⟨rfl, rfl, rfl, Nat.le_refl _, fun _ _ _ => rfl, fun _ _ h => h⟩
theorem Fr.trans {o1 o2 o3 : Own} {a b c : World} (h : Fr o1 o2 a b) (k : Fr o2 o3 b c) : Fr o1 o3 a c :=
  ⟨k.os.trans h.os, k.tape.trans h.tape, k.output.trans h.output, Nat.le_trans h.size k.size, fun i hi hn => (k.block i (Nat.lt_of_lt_of_le hi h.size) (h.new i hi hn)).trans (h.block i hi hn),
    fun i hi hn => k.new i (Nat.lt_of_lt_of_le hi h.size) (h.new i hi hn)⟩
theorem Fr.below {o1 o2 : Own} {w w' : World} (h : Fr o1 o2 w w') {B : Nat} (hB : B ≤ w.heap.size) (hn : ∀ k, k < B → o1 k = none) : Below B w w' :=
  ⟨h.os, h.tape, h.output, h.size, fun k hk => h.block k (by omega) (hn k hk)⟩
theorem Fr.of_below {own : Own} {w w' : World} (h : Below w.heap.size w w') : Fr own own w w' := ⟨h.os, h.tape, h.output, h.size, fun k hk _ => h.block k hk, fun _ _ h => h⟩
theorem Fr.of_grown {own own' : Own} {w w' : World} {row : Option Nat} (h : w.grownBy w' row) (hr : ∀ k, row = some k → own k ≠ none) (hn : ∀ k, k < w.heap.size → own k = none → own' k = none) : Fr own own' w w' :=
  ⟨h.os, h.tape, h.output, h.size, fun k hk hk0 => h.block k hk (fun e => hr k e.symm hk0), hn⟩
theorem Fr.set {own : Own} {w w' : World} {o : Own} (h : Fr o own w w') {p : Addr} (hp : own p.block ≠ none) (u : Value) : Fr o own w (w'.setCell p u) :=
  h.trans ⟨rfl, rfl, rfl, by simp, fun k _ hk => Below.heap_setCell w' p u k (fun e => hp (by rw [← e]; exact hk)), fun _ _ h => h⟩

structure C99 where
  what : Int
  a : ByteArray
  b : ByteArray
  p : Option Addr
structure U90 where
  cut : Bool
  b : Int
  at_ : Int
def kC : Kd C99 := Kd.iso (Kd.pair (Kd.int .i64) (Kd.pair Kd.string (Kd.pair Kd.string (Kd.scalar Value.pointer (fun _ => rfl))))) (fun x : C99 => (x.what, x.a, x.b, x.p))
def kU : Kd U90 := Kd.iso (Kd.pair Kd.bool (Kd.pair (Kd.int .u8) (Kd.int .i64))) (fun x : U90 => (x.cut, x.b, x.at_))
def encC (blk : Nat → Nat) : Ch → C99
  | .makes n f => ⟨0, n, ⟨#[]⟩, some ⟨blk f, 0, none⟩⟩
  | .renames a b => ⟨1, a, b, none⟩
  | .removes a => ⟨2, a, ⟨#[]⟩, none⟩
def encU : Un → U90
  | .add b => ⟨false, b.toNat, 0⟩
  | .cut n => ⟨true, 0, n⟩
def ints (s : By) : List Int := s.map (fun b => (b.toNat : Int))
abbrev kB : Kd Int := Kd.int .u8
def MapIs (w : World) (b : Nat) (m : AM) (blk : Nat → Nat) : Prop := ∃ kv, SMap w b kv ∧ KvIs kv m blk
theorem MapIs.move {w w' : World} {b : Nat} {m : AM} {blk : Nat → Nat} (h : MapIs w b m blk) (e : w'.heap[b]? = w.heap[b]?) : MapIs w' b m blk := by
  obtain ⟨kv, h1, h2⟩ := h
  exact ⟨kv, h1.of_block e, h2⟩
def FileIs (own : Own) (w : World) (f b : Nat) (x : Fl) : Prop :=
  ∃ vk vu vs, w.heap[b]? = some (.cells #[vk, vu, vs] 77 (0, 0)) ∧ Kd.R kB 5 w 0 (fun k => own k = some (.kept f)) vk (ints x.kept) ∧
    Kd.R kU 90 w 0 (fun k => own k = some (.units f)) vu (x.units.map encU) ∧ Kd.R kB 5 w 0 (fun k => own k = some (.seen f)) vs (ints x.seen)
/-- What the owner's blocks hold is the disk d. -/
structure Rep (own : Own) (w : World) (kd : Nat) (blk : Nat → Nat) (d : Dk) : Prop where
  lt : ∀ k r, own k = some r → k < w.heap.size
  dk : own kd = some .disk
  fl : ∀ f, f < d.files.length → own (blk f) = some (.file f)
  body : ∃ kn ks vc, own kn = some .names ∧ own ks = some .sure ∧
    w.heap[kd]? = some (.cells #[.int .i64 d.room, .bool d.off, .map (some kn), .map (some ks), vc, .int .i64 d.strokes, .int .i64 d.count, .int .i64 d.plan.off, .int .i64 d.plan.from_, .int .i64 d.plan.to_] 81 (0, 0)) ∧
    MapIs w kn d.names blk ∧ MapIs w ks d.sure blk ∧ Kd.R kC 99 w 0 (fun k => own k = some .changes) vc (d.changes.map (encC blk))
  files : ∀ f (hf : f < d.files.length), FileIs own w f (blk f) d.files[f]
theorem FileIs.move {own own' : Own} {w w' : World} {f b : Nat} {x : Fl} (h : FileIs own w f b x) (hb : w'.heap[b]? = w.heap[b]?) (hs : ∀ k r, own k = some r → w'.heap[k]? = w.heap[k]?) (ho : ∀ k r, own k = some r → own' k = some r) : FileIs own' w' f b x := by
  obtain ⟨vk, vu, vs, h0, h1, h2, h3⟩ := h
  exact ⟨vk, vu, vs, hb.trans h0, Kd.R_mono (Kd.R_step h1 (fun k hk _ => hs k _ hk)) (fun k hk => ho k _ hk), Kd.R_mono (Kd.R_step h2 (fun k hk _ => hs k _ hk)) (fun k hk => ho k _ hk), Kd.R_mono (Kd.R_step h3 (fun k hk _ => hs k _ hk)) (fun k hk => ho k _ hk)⟩
/-- What another does that leaves the owner's blocks alone. -/
theorem Rep.move {own own' : Own} {w w' : World} {kd : Nat} {blk : Nat → Nat} {d : Dk} (h : Rep own w kd blk d) (hs : ∀ k r, own k = some r → w'.heap[k]? = w.heap[k]?) (hsz : w.heap.size ≤ w'.heap.size)
    (ho : ∀ k r, own k = some r → own' k = some r) (hl : ∀ k r, own' k = some r → k < w'.heap.size) : Rep own' w' kd blk d := by
  obtain ⟨kn, ks, vc, o1, o2, b0, b1, b2, b3⟩ := h.body
  exact ⟨hl, ho _ _ h.dk, fun f hf => ho _ _ (h.fl f hf), ⟨kn, ks, vc, ho _ _ o1, ho _ _ o2, (hs _ _ h.dk).trans b0, b1.move (hs _ _ o1), b2.move (hs _ _ o2), Kd.R_mono (Kd.R_step b3 (fun k hk _ => hs k _ hk)) (fun k hk => ho k _ hk)⟩,
    fun f hf => (h.files f hf).move (hs _ _ (h.fl f hf)) hs ho⟩
theorem Rep.below {own : Own} {w w' : World} {kd : Nat} {blk : Nat → Nat} {d : Dk} (h : Rep own w kd blk d) (hb : Below w.heap.size w w') : Rep own w' kd blk d :=
  h.move (fun k r hk => hb.block k (h.lt k r hk)) hb.size (fun _ _ h => h) (fun k r hk => Nat.lt_of_lt_of_le (h.lt k r hk) hb.size)
/-- Two disks beside one another. -/
theorem Rep.other {own o1 o2 : Own} {w w' : World} {kd : Nat} {blk : Nat → Nat} {d : Dk} (h : Rep own w kd blk d) (hf : Fr o1 o2 w w') (hd : ∀ k r, own k = some r → o1 k = none) : Rep own w' kd blk d :=
  h.move (fun k r hk => hf.block k (h.lt k r hk) (hd k r hk)) hf.size (fun _ _ h => h) (fun k r hk => Nat.lt_of_lt_of_le (h.lt k r hk) hf.size)
end Go.Proofs.Ytonecajkfbdnmaa.Dk

namespace Go.Proofs.Ytonecajkfbdnmaa.Dk
open Go.Lib Go.RowKit Go.Proofs.Ytonecajkfbdnmaa.Mp Go.Proofs.YtonecajkfbdnmaaW.PrintWords Go.Proofs.YtonecajkfbdnmaaW.PrintLast Go.Proofs.YtonecajkfbdnmaaW.PrintMore Go.Proofs.Ytonecajkfbdnmaa.PDiskRoom
set_option linter.unusedVariables false
set_option linter.unusedSimpArgs false

def cells (d : Dk) (kn ks : Nat) (vc : Value) : Array Value :=
  #[.int .i64 d.room, .bool d.off, .map (some kn), .map (some ks), vc, .int .i64 d.strokes, .int .i64 d.count, .int .i64 d.plan.off, .int .i64 d.plan.from_, .int .i64 d.plan.to_]
theorem Rep.disk {own : Own} {w : World} {kd : Nat} {blk : Nat → Nat} {d : Dk} (h : Rep own w kd blk d) : ∃ kn ks vc, w.heap[kd]? = some (.cells (cells d kn ks vc) 81 (0, 0)) ∧
    ∀ (w' : World) (d' : Dk), w.heap.size ≤ w'.heap.size → (∀ k, k < w.heap.size → k ≠ kd → w'.heap[k]? = w.heap[k]?) → w'.heap[kd]? = some (.cells (cells d' kn ks vc) 81 (0, 0)) →
      d'.names = d.names → d'.sure = d.sure → d'.changes = d.changes → d'.files = d.files → Rep own w' kd blk d' := by
  obtain ⟨kn, ks, vc, o1, o2, b0, b1, b2, b3⟩ := h.body
  refine ⟨kn, ks, vc, b0, fun w' d' hsz hs hb e1 e2 e3 e4 => ?_⟩
  have hk : ∀ k r, own k = some r → r ≠ .disk → w'.heap[k]? = w.heap[k]? := fun k r hk hr => hs k (h.lt k r hk) (fun e => hr (by rw [e, h.dk] at hk; exact (Option.some.inj hk).symm))
  refine ⟨fun k r hk => Nat.lt_of_lt_of_le (h.lt k r hk) hsz, h.dk, fun f hf => h.fl f (by rw [← e4]; exact hf), ⟨kn, ks, vc, o1, o2, hb, ?_, ?_, ?_⟩, fun f hf => ?_⟩
  · rw [e1]; exact b1.move (hk _ _ o1 (by simp))
  · rw [e2]; exact b2.move (hk _ _ o2 (by simp))
  · rw [e3]; exact Kd.R_step b3 (fun k hk' _ => hk k _ hk' (by simp))
  · have hf' : f < d.files.length := by rw [← e4]; exact hf
    have e5 : d'.files[f] = d.files[f] := by simp only [e4]
    rw [e5]
    obtain ⟨vk, vu, vs, h0, h1, h2, h3⟩ := h.files f hf'
    exact ⟨vk, vu, vs, (hk _ _ (h.fl f hf') (by simp)).trans h0, Kd.R_step h1 (fun k hk' _ => hk k _ hk' (by simp)), Kd.R_step h2 (fun k hk' _ => hk k _ hk' (by simp)), Kd.R_step h3 (fun k hk' _ => hk k _ hk' (by simp))⟩

set_option maxRecDepth 100000 in
set_option maxHeartbeats 2000000 in
theorem stroke_walk (own : Own) (w : World) (kd : Nat) (blk : Nat → Nat) (d : Dk) (h : Rep own w kd blk d) (hs : d.strokes ≤ 2305843009213693952) (hc : d.count ≤ 2305843009213693952) :
    Calls Try.prog 55 #[ptr kd] w fun e w' => e = .returned (.bool d.tick.off) ∧ Rep own w' kd blk d.tick ∧ Fr own own w w' := by
  obtain ⟨kn, ks, vc, hb, hcl⟩ := h.disk
  have HCL := Lib.hid hcl
  have HH := Lib.hid h
  have c0 := blk_cell hb 0
  have c1 := blk_cell hb 1
  have c5 := blk_cell hb 5
  have c6 := blk_cell hb 6
  have c7 := blk_cell hb 7
  have f1 := blk_frozen hb 1
  have f5 := blk_frozen hb 5
  have f6 := blk_frozen hb 6
  have HB := Lib.hid hb
  simp [cells] at c0 c1 c5 c6 c7
  clear hcl h hb
  unfold ptr
  go_enter Try.func55, Try.ntmps55
  go_wp2_with fail
  obtain ⟨w1, hw1⟩ : ∃ w1, (w.setCell ⟨kd, 5, none⟩ (.int .i64 ((d.strokes : Int) + 1))).setCell ⟨kd, 6, none⟩ (.int .i64 ((d.count : Int) + 1)) = w1 := ⟨_, rfl⟩
  have hb1 := blk_set (blk_set HB.out 5 (.int .i64 ((d.strokes : Int) + 1))) 6 (.int .i64 ((d.count : Int) + 1))
  have ho1 : ∀ k, k ≠ kd → w1.heap[k]? = w.heap[k]? := fun k hk => by rw [← hw1]; exact (Below.heap_setCell _ _ _ k hk).trans (Below.heap_setCell _ _ _ k hk)
  have hs1 : w1.heap.size = w.heap.size := by rw [← hw1]; simp
  have hm1 : w1.os = w.os ∧ w1.tape = w.tape ∧ w1.output = w.output := by rw [← hw1]; exact ⟨rfl, rfl, rfl⟩
  rw [hw1] at hb1 ⊢
  clear hw1 c0 c1 c5 c6 c7 f1 f5 f6
  have c1 := blk_cell hb1 1
  have c6 := blk_cell hb1 6
  have c7 := blk_cell hb1 7
  have f1 := blk_frozen hb1 1
  simp [cells] at c1 c6 c7
  have HB1 := Lib.hid hb1
  have HO1 := Lib.hid ho1
  have HM1 := Lib.hid hm1
  clear hb1 ho1 hm1
  go_region_held3 (fun w' => w'.cell? ⟨kd, 6, none⟩ = some (.int .i64 ((d.count : Int) + 1)) ∧ w'.cell? ⟨kd, 7, none⟩ = some (.int .i64 d.plan.off))
    (first | (constructor <;> (simp [go_sem, *]; done)))
    (fail)
  go_wp2_with fail
  go_ret
  have e1 : ((d.count : Int) + 1 == d.plan.off) = d.tick.off := by
    show _ = decide ((d.count : Int) + 1 = d.plan.off)
    rw [Bool.eq_iff_iff]; simp
  have hb2 := blk_set (show w1.drew.heap[kd]? = _ from HB1.out) 1 (.bool ((d.count : Int) + 1 == d.plan.off))
  have ho2 : ∀ k, k ≠ kd → (w1.drew.setCell ⟨kd, 1, none⟩ (.bool ((d.count : Int) + 1 == d.plan.off))).heap[k]? = w.heap[k]? := fun k hk => (Below.heap_setCell _ _ _ k hk).trans (HO1.out k hk)
  refine ⟨by rw [e1]; rfl, HCL.out _ d.tick (by simp [hs1]) (fun k _ hk => ho2 k hk) ?_ rfl rfl rfl rfl, ?_⟩
  · refine hb2.trans ?_
    rw [e1]
    simp [cells, Dk.tick]
  · exact ⟨HM1.out.1, HM1.out.2.1, HM1.out.2.2, by simp [hs1], fun k _ hn => ho2 k (fun e => by rw [e, HH.out.dk] at hn; cases hn), fun _ _ h => h⟩
end Go.Proofs.Ytonecajkfbdnmaa.Dk
