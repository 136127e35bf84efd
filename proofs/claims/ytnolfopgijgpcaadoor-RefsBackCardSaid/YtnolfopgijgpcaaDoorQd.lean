import Derived.Below
import Derived.Carry
import Derived.Maps.RangeRun
import Derived.MapKept
import Derived.Maps.Own
import Derived.Test.YtnolfopgijgpcaaDoorQa
import Derived.Sort.Walk0
import Derived.Test.YtnolfopgijgpcaaDoorQc
import Derived.Test.YtnolfopgijgpcaaDoorQb
/- A map with strings as keys, as its block holds it: the list of its entries in the order in which they came. Look-up, store, delete, len, a range's step. No program. -/
namespace Go.Proofs.YtnolfopgijgpcaaDoor.Mp
open Go.ChangeMaps
open Go.MapKept (IsKey run_checkKey run_findKey heap_set bytes_beq)
set_option linter.unusedVariables false

abbrev KV := List (ByteArray × Value)
def kget : KV → ByteArray → Option Value
  | [], _ => none
  | (a, v) :: r, k => if a = k then some v else kget r k
def kput : KV → ByteArray → Value → KV
  | [], k, v => [(k, v)]
  | (a, x) :: r, k, v => if a = k then (a, v) :: r else (a, x) :: kput r k v
def kdel : KV → ByteArray → KV
  | [], _ => []
  | (a, x) :: r, k => if a = k then r else (a, x) :: kdel r k
def F (e : MapEntry) : Value × Value := (e.key, e.val)
def G (x : ByteArray × Value) : Value × Value := (.string x.1, x.2)
/-- Block b is a map of just these entries, in this order. -/
def SMap (w : World) (b : Nat) (kv : KV) : Prop :=
  ∃ es clock, w.heap[b]? = some (.map es clock) ∧ es.toList.map F = kv.map G ∧ (∀ e ∈ es.toList, e.born < clock) ∧ (es.toList.map (·.born)).Nodup

theorem isKey (k : ByteArray) : IsKey .string (.string k) := by simp [IsKey]
theorem sameNow_str (a b : ByteArray) : Instr.sameNow .string (.string a) (.string b) = some (decide (b = a)) := by
  show some (a == b) = _
  congr 1
  rw [Bool.eq_iff_iff, bytes_beq]
  simp [eq_comm]

theorem find_ix (k : ByteArray) : ∀ (l : List MapEntry) (kv : KV), l.map F = kv.map G →
    (kget kv k = none ∧ (∀ v, kput kv k v = kv ++ [(k, v)]) ∧ kdel kv k = kv ∧ ∀ i, Instr.findNow .string (.string k) l i = some none) ∨
    ∃ j v e, kget kv k = some v ∧ l[j]? = some e ∧ e.val = v ∧ e.key = .string k ∧ (∀ i, Instr.findNow .string (.string k) l i = some (some (i + j, v))) ∧
      (∀ v', (l.modify j (fun e => { e with key := .string k, val := v' })).map F = (kput kv k v').map G) ∧ (l.eraseIdx j).map F = (kdel kv k).map G
  | [], [], _ => .inl ⟨rfl, fun _ => rfl, rfl, fun _ => rfl⟩
  | [], _ :: _, h => by simp at h
  | _ :: _, [], h => by simp at h
  | e :: l, (a, x) :: kv, h => by
    simp only [List.map_cons, List.cons.injEq] at h
    obtain ⟨he, hl⟩ := h
    have hk : e.key = .string a := congrArg Prod.fst he
    have hx : e.val = x := congrArg Prod.snd he
    by_cases ha : a = k
    · subst ha
      right
      refine ⟨0, x, e, by simp [kget], rfl, hx, hk, fun i => ?_, fun v' => ?_, ?_⟩
      · simp [Instr.findNow, hk, sameNow_str, hx]
      · simp [kput, F, G]; exact hl
      · simp [kdel]; exact hl
    · rcases find_ix k l kv hl with ⟨h1, h2, h3, h4⟩ | ⟨j, v, e', h1, h2, h3, h4, h5, h6, h7⟩
      · left
        refine ⟨by simp [kget, ha, h1], fun v => by simp [kput, ha, h2], by simp [kdel, ha, h3], fun i => ?_⟩
        simp [Instr.findNow, hk, sameNow_str, ha, h4]
      · right
        refine ⟨j + 1, v, e', by simp [kget, ha, h1], by simpa using h2, h3, h4, fun i => ?_, fun v' => ?_, ?_⟩
        · simp [Instr.findNow, hk, sameNow_str, ha, h5]; omega
        · simp only [List.modify_succ_cons, List.map_cons, kput, ha, if_false]; rw [h6, he]
        · simp only [List.eraseIdx_cons_succ, List.map_cons, kdel, ha, if_false]; rw [h7, he]

theorem modify_same {α β : Type} (g : α → β) (j : Nat) (f : α → α) (h : ∀ e, g (f e) = g e) (l : List α) : (l.modify j f).map g = l.map g := by
  induction l generalizing j with
  | nil => simp
  | cons a r ih =>
    cases j with
    | zero => simp [h]
    | succ j => simp [ih j]

section
variable {P : Program} {w : World} {b : Nat} {kv : KV} {T K E : TypeId}

theorem SMap.lt (h : SMap w b kv) : b < w.heap.size := by
  obtain ⟨es, c, hb, _⟩ := h
  exact (Array.getElem?_eq_some_iff.1 hb).1
theorem SMap.of_block {w' : World} (h : SMap w b kv) (e : w'.heap[b]? = w.heap[b]?) : SMap w' b kv := by
  obtain ⟨es, c, hb, r⟩ := h
  exact ⟨es, c, e.trans hb, r⟩
theorem SMap.made (w : World) : SMap (w.alloc (.map #[] 0)) w.heap.size [] := ⟨#[], 0, (MapKept.heap_alloc w _).1, rfl, by simp, by simp⟩

theorem SMap.lookup (h : SMap w b kv) (hT : P.underlying T = some (.map K E)) (hK : P.underlying K = some .string) {z : Value} (hz : (zeroValue E).run P w = .ok z w) (k : ByteArray) (c : Bool) :
    (Instr.lookup T (.map (some b)) (.string k) c).run P w = .ok (if c then .tuple #[(kget kv k).getD z, .bool (kget kv k).isSome] else (kget kv k).getD z) w := by
  obtain ⟨es, clock, hb, hm, _⟩ := h
  have h1 : (Instr.checkKey es.isEmpty 10000 K (.string k)).run P w = .ok () w := run_checkKey (P := P) (w := w) hK (isKey k) es.isEmpty 9999
  rcases find_ix k es.toList kv hm with ⟨g1, _, _, g4⟩ | ⟨j, v, e, g1, _, _, _, g5, _, _⟩
  · have h2 := run_findKey (P := P) (w := w) hK (g4 0)
    simp [Instr.lookup, run_underlying hT, MapKept.run_getObj_map (P := P) hb, Result.andThen, h1, h2, hz, g1]
  · have h2 := run_findKey (P := P) (w := w) hK (g5 0)
    simp [Instr.lookup, run_underlying hT, MapKept.run_getObj_map (P := P) hb, Result.andThen, h1, h2, g1]

theorem SMap.update (h : SMap w b kv) (hT : P.underlying T = some (.map K E)) (hK : P.underlying K = some .string) (k : ByteArray) (v : Value) :
    ∃ o, (Instr.mapUpdate T (.map (some b)) (.string k) v).run P w = .ok () (setBlock w b o) ∧ SMap (setBlock w b o) b (kput kv k v) := by
  have hlt := h.lt
  obtain ⟨es, clock, hb, hm, hborn, hnd⟩ := h
  have h1 : (Instr.checkKey false 10000 K (.string k)).run P w = .ok () w := run_checkKey (P := P) (w := w) hK (isKey k) false 9999
  rcases find_ix k es.toList kv hm with ⟨g1, g2, _, g4⟩ | ⟨j, v0, e, g1, ge, _, gk, g5, g6, _⟩
  · have h2 := run_findKey (P := P) (w := w) hK (g4 0)
    refine ⟨.map (es.push { key := .string k, val := v, born := clock }) (clock + 1), ?_, _, _, (heap_set hb).1, ?_, ?_, ?_⟩
    · simp [Instr.mapUpdate, run_underlying hT, MapKept.run_getObj_map (P := P) hb, Result.andThen, h1, h2, MapKept.run_setObj_map (P := P) _ hb, setBlock]
    · rw [g2]; simp [hm, F, G]
    · intro e he
      simp at he
      rcases he with he | rfl
      · have := hborn e (by simpa using he); omega
      · simp
    · simp only [Array.toList_push, List.map_append, List.map_cons, List.map_nil]
      rw [List.nodup_append]
      refine ⟨hnd, by simp, ?_⟩
      intro x hx y hy
      simp at hy
      subst hy
      obtain ⟨e, he, rfl⟩ := List.mem_map.1 hx
      have := hborn e he
      omega
  · have h2 := run_findKey (P := P) (w := w) hK (g5 0)
    have hj : es[j]? = some e := by rw [← Array.getElem?_toList]; exact ge
    have hstay : (Instr.keyThatStays (.string k) (.string k)).run P w = .ok (.string k) w := by
      simp [Instr.keyThatStays, Instr.sameBits, bytes_beq]
    refine ⟨.map (es.modify j fun e => { e with key := .string k, val := v }) clock, ?_, _, _, (heap_set hb).1, ?_, ?_, ?_⟩
    · simp only [Instr.mapUpdate, Sem.run_bind, run_underlying hT, MapKept.run_getObj_map (P := P) hb, Result.andThen, h1, h2, Nat.zero_add, hj, Option.map_some, Option.getD_some, gk, hstay]
      simp [MapKept.run_setObj_map (P := P) _ hb, setBlock]
    · rw [Array.toList_modify]; exact g6 v
    · intro x hx
      rw [Array.toList_modify] at hx
      have : x.born ∈ (es.toList.modify j fun e => { e with key := .string k, val := v }).map (·.born) := List.mem_map_of_mem hx
      rw [modify_same MapEntry.born j (fun e => { e with key := .string k, val := v }) (fun _ => rfl)] at this
      obtain ⟨y, hy, e1⟩ := List.mem_map.1 this
      rw [← e1]; exact hborn y hy
    · rw [Array.toList_modify, modify_same MapEntry.born j (fun e => { e with key := .string k, val := v }) (fun _ => rfl)]; exact hnd

/-- A store, at the operation. -/
theorem wpList_put {ops : Array Oper} {rest : List Oper} {o : Oper} {a : Act} {Q : Exit → Act → World → Prop} (h : SMap w b kv)
    (hg : o.guard = none) (m x v : Operand) (T : TypeId) (hop : o.op = Op.mapUpdate T m x v) (hT : P.underlying T = some (.map K E)) (hK : P.underlying K = some .string)
    (hm : a.eval m = .map (some b)) (k : ByteArray) (val : Value) (hx : a.eval x = .string k) (hv : a.eval v = val)
    (hn : ∀ w', SMap w' b (kput kv k val) → w.grownBy w' (some b) → wpList P ops Q rest (a.put o.dst undef) w') : wpList P ops Q (o :: rest) a w := by
  refine wpList_plain hg fun K' hK' => ?_
  obtain ⟨ob, hrun, r1⟩ := h.update hT hK k val
  obtain ⟨es, clock, hb, _⟩ := h
  unfold Oper.wp
  simp [execOp, hop, hm, hx, hv, hrun, Result.andThen]
  exact hK' _ _ (hn _ r1 ⟨rfl, rfl, rfl, by simp [setBlock], fun i _ hi => (heap_set hb).2 i (fun e => hi (by rw [e]))⟩)
end
end Go.Proofs.YtnolfopgijgpcaaDoor.Mp
/- Plain law: the least clash. No program. -/
namespace Go.Proofs.YtnolfopgijgpcaaDoor.Rm
open Go.Lib Go.Proofs.YtnolfopgijgpcaaDoor.Nm Go.Proofs.YtnolfopgijgpcaaDoor.Mp
set_option linter.unusedVariables false

/-- r is the least of the bad ones, if there is one. -/
def Least (Bad : By → Prop) (r : By × Bool) : Prop := (r.2 = false ∧ r.1 = [] ∧ ∀ t, ¬ Bad t) ∨ (r.2 = true ∧ Bad r.1 ∧ ∀ t, Bad t → Op.bytesLess t r.1 = false)
theorem bl_total (a b : By) (h1 : Op.bytesLess a b = false) (h2 : Op.bytesLess b a = false) : a = b := by
  rw [bytesLess_eq] at h1 h2
  exact List.le_antisymm (List.not_lt.1 (of_decide_eq_false h2)) (List.not_lt.1 (of_decide_eq_false h1))
theorem bl_irrefl (a : By) : Op.bytesLess a a = false := by rw [bytesLess_eq]; simp
theorem bl_le_lt {a b c : By} (h1 : Op.bytesLess a b = false) (h2 : Op.bytesLess c b = true) : Op.bytesLess a c = false := by
  rw [bytesLess_eq] at h1 h2 ⊢
  have h1' := of_decide_eq_false h1
  have h2' := of_decide_eq_true h2
  refine decide_eq_false fun h => h1' (List.lt_trans h h2')
theorem Least.unique {Bad : By → Prop} {r r' : By × Bool} (h : Least Bad r) (h' : Least Bad r') : r = r' := by
  rcases h with ⟨h1, h2, h3⟩ | ⟨h1, h2, h3⟩ <;> rcases h' with ⟨g1, g2, g3⟩ | ⟨g1, g2, g3⟩
  · exact Prod.ext (h2.trans g2.symm) (h1.trans g1.symm)
  · exact absurd g2 (h3 _)
  · exact absurd h2 (g3 _)
  · exact Prod.ext (bl_total _ _ (g3 _ h2) (h3 _ g2)) (h1.trans g1.symm)
theorem Least.congr {Bad Bad' : By → Prop} {r : By × Bool} (h : Least Bad r) (e : ∀ t, Bad' t ↔ Bad t) : Least Bad' r := by
  rcases h with ⟨h1, h2, h3⟩ | ⟨h1, h2, h3⟩
  · exact .inl ⟨h1, h2, fun t ht => h3 t ((e t).1 ht)⟩
  · exact .inr ⟨h1, (e _).2 h2, fun t ht => h3 t ((e t).1 ht)⟩
theorem Least.step {Bad Bad' : By → Prop} {r : By × Bool} (h : Least Bad r) (c : Bool) (t0 : By) (e : ∀ t, Bad' t ↔ Bad t ∨ (c = true ∧ t = t0)) :
    Least Bad' (if (c && (!r.2 || Op.bytesLess t0 r.1)) = true then (t0, true) else r) := by
  cases c with
  | false => exact h.congr fun t => by rw [e]; simp
  | true =>
    rcases h with ⟨h1, h2, h3⟩ | ⟨h1, h2, h3⟩
    · rw [if_pos (by rw [h1]; rfl)]
      refine .inr ⟨rfl, (e _).2 (.inr ⟨rfl, rfl⟩), fun t ht => ?_⟩
      rcases (e t).1 ht with ht | ⟨_, rfl⟩
      · exact absurd ht (h3 t)
      · exact bl_irrefl _
    · rw [h1]
      cases hb : Op.bytesLess t0 r.1
      · rw [if_neg (by simp)]
        refine .inr ⟨h1, (e _).2 (.inl h2), fun t ht => ?_⟩
        rcases (e t).1 ht with ht | ⟨_, rfl⟩
        · exact h3 t ht
        · exact hb
      · rw [if_pos (by simp)]
        refine .inr ⟨rfl, (e _).2 (.inr ⟨rfl, rfl⟩), fun t ht => ?_⟩
        rcases (e t).1 ht with ht | ⟨_, rfl⟩
        · exact bl_le_lt (h3 t ht) hb
        · exact bl_irrefl _

/-- Two different names of L lead to t. -/
def Bad (f : ByteArray → Option By) (L : List ByteArray) (t : By) : Prop := ∃ a ∈ L, ∃ b ∈ L, a ≠ b ∧ f a = some t ∧ f b = some t
theorem Bad.nil (f : ByteArray → Option By) (t : By) : ¬ Bad f [] t := by rintro ⟨a, ha, _⟩; simp at ha
theorem Bad.snoc (f : ByteArray → Option By) (L : List ByteArray) (n : ByteArray) (t : By) : Bad f (L ++ [n]) t ↔ Bad f L t ∨ (f n = some t ∧ ∃ a ∈ L, a ≠ n ∧ f a = some t) := by
  constructor
  · rintro ⟨a, ha, b, hb, hn, h1, h2⟩
    rw [List.mem_append, List.mem_singleton] at ha hb
    rcases ha with ha | rfl <;> rcases hb with hb | rfl
    · exact .inl ⟨a, ha, b, hb, hn, h1, h2⟩
    · exact .inr ⟨h2, a, ha, hn, h1⟩
    · exact .inr ⟨h1, b, hb, fun e => hn e.symm, h2⟩
    · exact absurd rfl hn
  · rintro (⟨a, ha, b, hb, hn, h1, h2⟩ | ⟨h1, a, ha, hn, h2⟩)
    · exact ⟨a, by simp [ha], b, by simp [hb], hn, h1, h2⟩
    · exact ⟨a, by simp [ha], n, by simp, hn, h2, h1⟩
theorem Bad.skip (f : ByteArray → Option By) (L : List ByteArray) (n : ByteArray) (h : f n = none) (t : By) : Bad f (L ++ [n]) t ↔ Bad f L t := by
  rw [Bad.snoc, h]; simp

/-- The map holds for each target one name that leads there. -/
def MapOk (f : ByteArray → Option By) (L : List ByteArray) (kv : KV) : Prop :=
  ∀ t, (kget kv (mk t) = none → ∀ a ∈ L, f a ≠ some t) ∧ (∀ v, kget kv (mk t) = some v → ∃ a ∈ L, v = .string a ∧ f a = some t)
theorem get_put (k : ByteArray) (v : Value) (k' : ByteArray) : ∀ kv : KV, kget (kput kv k v) k' = if k = k' then some v else kget kv k'
  | [] => by simp [kput, kget]
  | (a, x) :: r => by
    have ih := get_put k v k' r
    by_cases h : a = k
    · subst h
      simp only [kput, if_true, kget]
      by_cases h2 : a = k' <;> simp [h2]
    · simp only [kput, if_neg h, kget]
      rw [ih]
      by_cases h2 : a = k'
      · subst h2; simp; exact fun e => absurd e.symm h
      · simp [h2]
theorem MapOk.nil (f : ByteArray → Option By) : MapOk f [] [] := fun t => ⟨fun _ a ha => by simp at ha, fun v h => by simp [kget] at h⟩
theorem MapOk.skip {f : ByteArray → Option By} {L : List ByteArray} {kv : KV} (h : MapOk f L kv) (n : ByteArray) (hn : f n = none) : MapOk f (L ++ [n]) kv := fun t =>
  ⟨fun g a ha => by
    rw [List.mem_append, List.mem_singleton] at ha
    rcases ha with ha | rfl
    · exact (h t).1 g a ha
    · rw [hn]; simp, fun v g => by obtain ⟨a, ha, r⟩ := (h t).2 v g; exact ⟨a, by simp [ha], r⟩⟩
theorem mk_inj {a b : By} (h : mk a = mk b) : a = b := by have := congrArg bl h; rwa [bl_mk, bl_mk] at this
theorem MapOk.stow {f : ByteArray → Option By} {L : List ByteArray} {kv : KV} (h : MapOk f L kv) (n : ByteArray) {t0 : By} (hn : f n = some t0) : MapOk f (L ++ [n]) (kput kv (mk t0) (.string n)) := fun t => by
  rw [get_put]
  by_cases e : mk t0 = mk t
  · rw [if_pos e]
    refine ⟨fun g => absurd g (by simp), fun v g => ?_⟩
    obtain rfl := Option.some.inj g
    exact ⟨n, by simp, rfl, by rw [hn, mk_inj e]⟩
  · rw [if_neg e]
    refine ⟨fun g a ha => ?_, fun v g => by obtain ⟨a, ha, r⟩ := (h t).2 v g; exact ⟨a, by simp [ha], r⟩⟩
    rw [List.mem_append, List.mem_singleton] at ha
    rcases ha with ha | rfl
    · exact (h t).1 g a ha
    · rw [hn]; exact fun q => e (by cases q; rfl)
/-- A round of the program: only one earlier name is looked at. -/
theorem Bad.round {f : ByteArray → Option By} {L : List ByteArray} {kv : KV} (h : MapOk f L kv) (n : ByteArray) {t0 : By} (hn : f n = some t0) (c : Bool)
    (hc : c = true ↔ ∃ a, kget kv (mk t0) = some (.string a) ∧ a ≠ n) (t : By) : Bad f (L ++ [n]) t ↔ Bad f L t ∨ (c = true ∧ t = t0) := by
  rw [Bad.snoc, hn]
  constructor
  · rintro (hb | ⟨e, a, ha, hne, hf⟩)
    · exact .inl hb
    · obtain rfl := Option.some.inj e
      cases hg : kget kv (mk t0) with
      | none => exact absurd hf ((h t0).1 hg a ha)
      | some v =>
        obtain ⟨b, hb, rfl, hfb⟩ := (h t0).2 v hg
        by_cases hbn : b = n
        · subst hbn
          exact .inl ⟨a, ha, b, hb, hne, hf, hfb⟩
        · exact .inr ⟨hc.2 ⟨b, hg, hbn⟩, rfl⟩
  · rintro (hb | ⟨hct, rfl⟩)
    · exact .inl hb
    · obtain ⟨a, hg, hne⟩ := hc.1 hct
      obtain ⟨b, hb, e, hfb⟩ := (h t).2 _ hg
      obtain rfl := Value.string.inj e
      exact .inr ⟨rfl, a, hb, hne, hfb⟩
/-- The reference's inner rounds. -/
def BadK (f : ByteArray → Option By) (L : List ByteArray) (k : Nat) (n : ByteArray) (t0 : By) (t : By) : Prop := Bad f L t ∨ (t = t0 ∧ ∃ a ∈ L.take k, a ≠ n ∧ f a = some t)
theorem BadK.zero (f : ByteArray → Option By) (L : List ByteArray) (n : ByteArray) (t0 t : By) : BadK f L 0 n t0 t ↔ Bad f L t := by simp [BadK]
theorem BadK.all (f : ByteArray → Option By) (L : List ByteArray) (n : ByteArray) {t0 : By} (hn : f n = some t0) (t : By) : Bad f (L ++ [n]) t ↔ BadK f L L.length n t0 t := by
  rw [Bad.snoc, BadK, List.take_length, hn]
  simp [eq_comm]
theorem BadK.succ (f : ByteArray → Option By) (L : List ByteArray) (k : Nat) (hk : k < L.length) (n : ByteArray) (t0 : By) (c : Bool) (hc : c = true ↔ f L[k] = some t0 ∧ L[k] ≠ n) (t : By) :
    BadK f L (k + 1) n t0 t ↔ BadK f L k n t0 t ∨ (c = true ∧ t = t0) := by
  unfold BadK
  simp only [List.take_succ_eq_append_getElem hk]
  constructor
  · rintro (hb | ⟨rfl, a, ha, hne, hf⟩)
    · exact .inl (.inl hb)
    · rw [List.mem_append, List.mem_singleton] at ha
      rcases ha with ha | rfl
      · exact .inl (.inr ⟨rfl, a, ha, hne, hf⟩)
      · exact .inr ⟨hc.2 ⟨hf, hne⟩, rfl⟩
  · rintro ((hb | ⟨rfl, a, ha, hne, hf⟩) | ⟨h1, rfl⟩)
    · exact .inl hb
    · exact .inr ⟨rfl, a, List.mem_append.2 (.inl ha), hne, hf⟩
    · obtain ⟨g1, g2⟩ := hc.1 h1
      exact .inr ⟨rfl, L[k], List.mem_append.2 (.inr (List.mem_singleton.2 rfl)), g2, g1⟩
end Go.Proofs.YtnolfopgijgpcaaDoor.Rm
/- The walk of refs.Clash. -/
namespace Go.Proofs.YtnolfopgijgpcaaDoor.Rm
set_option linter.unusedVariables false
open Go.Lib Go.RowKit Go.Proofs.YtnolfopgijgpcaaDoor.Nm Go.Proofs.YtnolfopgijgpcaaDoor.Mp Go.Proofs.YtnolfopgijgpcaaDoor.PRefsMapped Go.Proofs.YtnolfopgijgpcaaDoorW.PrintWords

/-- Where a name is mapped to. -/
def tgt (l : List S55) (n : ByteArray) : Option By := if (mapL (rs l) (bl n)).2.2 = true then some (mapL (rs l) (bl n)).1 else none
def Nok (M : Nat) (L : List ByteArray) : Prop := ∀ n ∈ L, n.size ≤ M
/-- Name i, at its cell. -/
theorem name_at {w : World} {A : Option Addr} {L : List ByteArray} (h : Kd.C Kd.string w A L.length L) (i : Nat) (hi : i < L.length) : ∃ ad, A = some ad ∧ w.cell? (ad.add i) = some (.string L[i]) := by
  obtain ⟨ad, e, hc⟩ := Kd.at_string h (i : Int) (by omega) (by omega)
  rw [Int.toNat_natCast] at hc
  have e1 : rdOf ByteArray.empty L (i : Int) = L[i] := by simp [rdOf, hi]
  rw [e1] at hc
  exact ⟨ad, e, hc⟩
theorem names_max {w : World} {A : Option Addr} {L : List ByteArray} (h : Kd.C Kd.string w A L.length L) : L.length ≤ 9223372036854775807 := h.2.1
theorem toList_inj {a b : ByteArray} (h : (a.toList == b.toList) = true) : a = b := by
  rw [toList_bl, toList_bl] at h
  have := eq_of_beq h
  rw [← mk_bl a, ← mk_bl b, this]
def clashV (r : By × Bool) : Ending := .returned (.tuple #[.string (mk r.1), .bool r.2])

set_option maxRecDepth 100000 in
set_option maxHeartbeats 4000000 in
theorem progClash_walk (M : Nat) (hM : M ≤ big) (l : List S55) (L : List ByteArray) (A : Option Addr) (c : Nat) (B : Option Addr) (d : Nat) (w : World) (hT : Hid (Lib.Utf8Tabs 0 1 w)) (hC : Hid (Kd.C k55 w A l.length l)) (hc : l.length ≤ c) (hr : Hid (Rok M l))
    (hD : Hid (Kd.C Kd.string w B L.length L)) (hd : L.length ≤ d) (hn : Hid (Nok M L)) :
    Calls Tryd.prog 21 #[.slice A l.length c, .slice B L.length d] w fun e w' => ∃ r, e = clashV r ∧ Least (Bad (tgt l) L) r ∧ Below w.heap.size w w' := by
  have hm := names_max hD.out
  have hmm := @run_makeMap Tryd.prog
  go_enter Tryd.func21, Tryd.ntmps21
  go_wp2_with fail
  go_loopw [19, 7, 8] (fun v19 v7 v8 wr => ∃ (i : Nat) (r : By × Bool) (kv : KV), i ≤ L.length ∧ v19 = .int .i64 i ∧ v7 = .string (mk r.1) ∧ v8 = .bool r.2 ∧ Below w.heap.size w wr ∧ SMap wr w.heap.size kv ∧ Least (Bad (tgt l) (L.take i)) r ∧ MapOk (tgt l) (L.take i) kv) (fun v19 _ _ _ => L.length - (intOf v19).toNat)
  case atStart => exact ⟨0, ([], false), [], Nat.zero_le _, rfl, rfl, rfl, (Below.refl _ _).alloc (Nat.le_refl _) _, SMap.made w, .inl ⟨rfl, rfl, fun t => by rw [List.take_zero]; exact Bad.nil _ t⟩, by rw [List.take_zero]; exact MapOk.nil _⟩
  case round =>
    obtain ⟨i, ⟨r1, r2⟩, kv, hi, rfl, rfl, rfl, hb, hs, hl, hk⟩ := hrel
    have HB := Lib.hid hb
    have HS := Lib.hid hs
    have HL := Lib.hid hl
    have HK := Lib.hid hk
    clear hb hs hl hk
    by_cases hlt : i < L.length
    · have hu := hn.out L[i] (List.getElem_mem hlt)
      obtain ⟨ad, rfl, h0⟩ := name_at (Kd.C_below hD.out HB.out) i hlt
      have htk := List.take_succ_eq_append_getElem hlt
      obtain ⟨n, hn0⟩ : ∃ n, L[i] = n := ⟨_, rfl⟩
      rw [hn0] at h0 hu htk
      have HN := Lib.hid hn0
      have HTK := Lib.hid htk
      clear hn0 htk
      have HMP := Lib.hid (progMap_walk M hM l n A c wr (Lib.hid (tabs_below hT.out HB.out)) (Lib.hid (Kd.C_below hC.out HB.out)) hc hr (by omega))
      have htg : tgt l n = if (mapL (rs l) (bl n)).2.2 = true then some (mapL (rs l) (bl n)).1 else none := rfl
      obtain ⟨z, hz⟩ : ∃ z, mapL (rs l) (bl n) = z := ⟨_, rfl⟩
      rw [hz] at HMP htg
      clear hz
      obtain ⟨z1, z2, z3⟩ := z
      unfold mapV at HMP
      go_wp2_with fail
      refine HMP.out.mono ?_
      rintro e w1 ⟨rfl, hb⟩
      have HB1 := Lib.hid (HB.out.trans (hb.mono HB.out.size))
      have HS1 := Lib.hid (HS.out.of_block (hb.block _ HS.out.lt))
      clear hb HMP
      cases z3
      · have HTG := Lib.hid (show tgt l n = none from htg)
        clear htg
        go_wp2_with fail
        go_roundw
        case rel => exact ⟨i + 1, (r1, r2), kv, by omega, by go_num, rfl, rfl, HB1.out, HS1.out, by rw [HTK.out]; exact HL.out.congr fun t => Bad.skip _ _ _ HTG.out t, by rw [HTK.out]; exact HK.out.skip _ HTG.out⟩
        case measure => simp [intOf]; omega
      · have HTG := Lib.hid (show tgt l n = some z1 from htg)
        clear htg
        have hz9 : (zeroValue 9).run Tryd.prog w1 = .ok (.string ⟨#[]⟩) w1 := by go_simp
        have hlk := HS1.out.lookup (P := Tryd.prog) (T := 72) Tryd.underlying72 Tryd.underlying9 hz9 (mk z1) true
        cases hg : kget kv (mk z1) with
        | none =>
          rw [hg] at hlk
          simp only [if_true, Option.getD_none, Option.isSome_none] at hlk
          have HST : Hid (Least (Bad (tgt l) (L.take i ++ [n])) (r1, r2)) := Lib.hid (HL.out.congr fun t => by rw [Bad.round HK.out n HTG.out false (by rw [hg]; simp) t]; simp)
          clear hg
          go_wp2_with (at_mapUpdate; refine wpList_put (kv := kv) HS1.out rfl _ _ _ 72 rfl Tryd.underlying72 Tryd.underlying9 rfl _ _ rfl rfl ?_; intro w2 hs2 hg2; have HS2 := Lib.hid hs2; have HB2 := Lib.hid (HB1.out.grown hg2 HB1.out.size (fun k hk => by cases hk; exact Nat.le_refl _)); clear hs2 hg2)
          go_roundw
          case rel => exact ⟨i + 1, (r1, r2), _, by omega, by go_num, rfl, rfl, HB2.out, HS2.out, by rw [HTK.out]; exact HST.out, by rw [HTK.out]; exact HK.out.stow n HTG.out⟩
          case measure => simp [intOf]; omega
        | some v =>
          obtain ⟨a, _, rfl, _⟩ := (HK.out z1).2 v hg
          rw [hg] at hlk
          simp only [if_true, Option.getD_some, Option.isSome_some] at hlk
          cases hq : (a.toList == n.toList)
          · have hne : a ≠ n := fun e => by rw [e] at hq; simp at hq
            have HST := Lib.hid (HL.out.step true z1 (Bad.round HK.out n HTG.out true ⟨fun _ => ⟨a, hg, hne⟩, fun _ => rfl⟩))
            clear hg hne
            cases r2
            · have HST : Hid (Least (Bad (tgt l) (L.take i ++ [n])) (z1, true)) := HST
              go_wp2_with (at_mapUpdate; refine wpList_put (kv := kv) HS1.out rfl _ _ _ 72 rfl Tryd.underlying72 Tryd.underlying9 rfl _ _ rfl rfl ?_; intro w2 hs2 hg2; have HS2 := Lib.hid hs2; have HB2 := Lib.hid (HB1.out.grown hg2 HB1.out.size (fun k hk => by cases hk; exact Nat.le_refl _)); clear hs2 hg2)
              go_roundw
              case rel => exact ⟨i + 1, (z1, true), _, by omega, by go_num, rfl, rfl, HB2.out, HS2.out, by rw [HTK.out]; exact HST.out, by rw [HTK.out]; exact HK.out.stow n HTG.out⟩
              case measure => simp [intOf]; omega
            · cases hbl : Op.bytesLess z1 r1
              · have hbl2 : Op.bytesLess (mk z1).toList (mk r1).toList = false := by rw [toList_bl, toList_bl, bl_mk, bl_mk]; exact hbl
                rw [hbl] at HST
                have HST : Hid (Least (Bad (tgt l) (L.take i ++ [n])) (r1, true)) := HST
                clear hbl
                go_wp2_with (at_mapUpdate; refine wpList_put (kv := kv) HS1.out rfl _ _ _ 72 rfl Tryd.underlying72 Tryd.underlying9 rfl _ _ rfl rfl ?_; intro w2 hs2 hg2; have HS2 := Lib.hid hs2; have HB2 := Lib.hid (HB1.out.grown hg2 HB1.out.size (fun k hk => by cases hk; exact Nat.le_refl _)); clear hs2 hg2)
                go_roundw
                case rel => exact ⟨i + 1, (r1, true), _, by omega, by go_num, rfl, rfl, HB2.out, HS2.out, by rw [HTK.out]; exact HST.out, by rw [HTK.out]; exact HK.out.stow n HTG.out⟩
                case measure => simp [intOf]; omega
              · have hbl2 : Op.bytesLess (mk z1).toList (mk r1).toList = true := by rw [toList_bl, toList_bl, bl_mk, bl_mk]; exact hbl
                rw [hbl] at HST
                have HST : Hid (Least (Bad (tgt l) (L.take i ++ [n])) (z1, true)) := HST
                clear hbl
                go_wp2_with (at_mapUpdate; refine wpList_put (kv := kv) HS1.out rfl _ _ _ 72 rfl Tryd.underlying72 Tryd.underlying9 rfl _ _ rfl rfl ?_; intro w2 hs2 hg2; have HS2 := Lib.hid hs2; have HB2 := Lib.hid (HB1.out.grown hg2 HB1.out.size (fun k hk => by cases hk; exact Nat.le_refl _)); clear hs2 hg2)
                go_roundw
                case rel => exact ⟨i + 1, (z1, true), _, by omega, by go_num, rfl, rfl, HB2.out, HS2.out, by rw [HTK.out]; exact HST.out, by rw [HTK.out]; exact HK.out.stow n HTG.out⟩
                case measure => simp [intOf]; omega
          · have he : a = n := toList_inj hq
            have HST : Hid (Least (Bad (tgt l) (L.take i ++ [n])) (r1, r2)) := Lib.hid (HL.out.congr fun t => by rw [Bad.round HK.out n HTG.out false (by rw [hg, he]; simp) t]; simp)
            clear hg he
            go_wp2_with (at_mapUpdate; refine wpList_put (kv := kv) HS1.out rfl _ _ _ 72 rfl Tryd.underlying72 Tryd.underlying9 rfl _ _ rfl rfl ?_; intro w2 hs2 hg2; have HS2 := Lib.hid hs2; have HB2 := Lib.hid (HB1.out.grown hg2 HB1.out.size (fun k hk => by cases hk; exact Nat.le_refl _)); clear hs2 hg2)
            go_roundw
            case rel => exact ⟨i + 1, (r1, r2), _, by omega, by go_num, rfl, rfl, HB2.out, HS2.out, by rw [HTK.out]; exact HST.out, by rw [HTK.out]; exact HK.out.stow n HTG.out⟩
            case measure => simp [intOf]; omega
    · go_wp2_with fail
      go_ret2
      exact ⟨(r1, r2), rfl, by rw [List.take_of_length_le (by omega)] at HL; exact HL.out, HB.out⟩
end Go.Proofs.YtnolfopgijgpcaaDoor.Rm
/- The walk of the reference's Clash. -/
namespace Go.Proofs.YtnolfopgijgpcaaDoor.Rm
set_option linter.unusedVariables false
open Go.Lib Go.RowKit Go.Proofs.YtnolfopgijgpcaaDoor.Nm Go.Proofs.YtnolfopgijgpcaaDoor.Mp Go.Proofs.YtnolfopgijgpcaaDoor.PRefsMapped Go.Proofs.YtnolfopgijgpcaaDoorW.PrintWords Go.Proofs.YtnolfopgijgpcaaDoorW.PrintLast Go.Proofs.YtnolfopgijgpcaaDoorW.PrintMore

theorem flag_at {w : World} {A : Option Addr} {L : List Bool} (h : Kd.C Kd.bool w A L.length L) (i : Nat) (hi : i < L.length) : ∃ ad, A = some ad ∧ w.cell? (ad.add i) = some (.bool L[i]) := by
  obtain ⟨ad, e, hc⟩ := Kd.at_bool h (i : Int) (by omega) (by omega)
  rw [Int.toNat_natCast] at hc
  have e1 : rdOf false L (i : Int) = L[i] := by simp [rdOf, hi]
  rw [e1] at hc
  exact ⟨ad, e, hc⟩
/-- No clash at place k. -/
theorem no_clash {l : List S55} {L : List ByteArray} {k : Nat} {n : ByteArray} {t0 : By} {r : By × Bool} (h : Least (BadK (tgt l) L k n t0) r) (hk : k < L.length) (hc : ¬ (tgt l L[k] = some t0 ∧ L[k] ≠ n)) : Least (BadK (tgt l) L (k + 1) n t0) r :=
  h.congr fun t => by rw [BadK.succ _ _ k hk n t0 false (by simpa using hc) t]; simp
theorem a_clash {l : List S55} {L : List ByteArray} {k : Nat} {n : ByteArray} {t0 : By} {r : By × Bool} (h : Least (BadK (tgt l) L k n t0) r) (hk : k < L.length) (hc : tgt l L[k] = some t0 ∧ L[k] ≠ n) : Least (BadK (tgt l) L (k + 1) n t0) (if (true && (!r.2 || Op.bytesLess t0 r.1)) = true then (t0, true) else r) :=
  h.step true t0 (BadK.succ _ _ k hk n t0 true (by simpa using hc))

set_option maxRecDepth 100000 in
set_option maxHeartbeats 4000000 in
theorem refClash_walk (M : Nat) (hM : M ≤ big) (l : List S55) (L : List ByteArray) (A : Option Addr) (c : Nat) (B : Option Addr) (d : Nat) (w : World) (hC : Hid (Kd.C k55 w A l.length l)) (hc : l.length ≤ c) (hr : Hid (Rok M l))
    (hD : Hid (Kd.C Kd.string w B L.length L)) (hd : L.length ≤ d) (hn : Hid (Nok M L)) (hLL : L.length ≤ 200) :
    Calls Tryd.prog 22 #[.slice A l.length c, .slice B L.length d] w fun e w' => ∃ r, e = clashV r ∧ Least (Bad (tgt l) L) r ∧ Below w.heap.size w w' := by
  have hm := names_max hD.out
  go_enter Tryd.func22, Tryd.ntmps22
  go_wp2_with fail
  go_loopw [10, 6, 7, 8, 9] (fun v10 v6 v7 v8 v9 wr => ∃ (i : Nat) (r : By × Bool) (ts : List ByteArray) (hs : List Bool), i ≤ L.length ∧ v10 = .int .i64 i ∧ v6 = .string (mk r.1) ∧ v7 = .bool r.2 ∧ Below w.heap.size w wr ∧
    Kd.R Kd.string 9 wr w.heap.size (fun _ => True) v8 ts ∧ Kd.R Kd.bool 4 wr w.heap.size (fun _ => True) v9 hs ∧ Least (Bad (tgt l) (L.take i)) r ∧ ts = (L.take i).map (fun n => mk (mapL (rs l) (bl n)).1) ∧ hs = (L.take i).map (fun n => (mapL (rs l) (bl n)).2.2)) (fun v10 _ _ _ _ _ => L.length - (intOf v10).toNat)
  case atStart => exact ⟨0, ([], false), [], [], Nat.zero_le _, rfl, rfl, rfl, Below.refl _ _, Kd.R_nil _ _ _ _ _, Kd.R_nil _ _ _ _ _, .inl ⟨rfl, rfl, fun t => by rw [List.take_zero]; exact Bad.nil _ t⟩, by simp, by simp⟩
  case round =>
    obtain ⟨i, ⟨r1, r2⟩, ts, hs, hi, rfl, rfl, rfl, hb, ho8, ho9, hl, hts, hhs⟩ := hrel
    obtain ⟨Ao, co, e8⟩ := Kd.R_slice ho8
    obtain ⟨Ah, ch, e9⟩ := Kd.R_slice ho9
    subst e8 e9
    have htl : ts.length = i := by rw [hts, List.length_map, List.length_take]; omega
    have hhl : hs.length = i := by rw [hhs, List.length_map, List.length_take]; omega
    rw [htl] at ho8
    rw [hhl] at ho9
    have HB := Lib.hid hb
    have HO8 := Lib.hid ho8
    have HO9 := Lib.hid ho9
    have HL := Lib.hid hl
    have HTS := Lib.hid hts
    have HHS := Lib.hid hhs
    clear hb ho8 ho9 hl hts hhs
    by_cases hlt : i < L.length
    · have hu := hn.out L[i] (List.getElem_mem hlt)
      obtain ⟨ad, rfl, h0⟩ := name_at (Kd.C_below hD.out HB.out) i hlt
      have htk := List.take_succ_eq_append_getElem hlt
      have hli : (L.take i).length = i := by rw [List.length_take]; omega
      obtain ⟨n, hn0⟩ : ∃ n, L[i] = n := ⟨_, rfl⟩
      rw [hn0] at h0 hu htk
      have HN := Lib.hid hn0
      have HTK := Lib.hid htk
      clear hn0 htk
      have HMP := Lib.hid (refMap_walk M hM l n A c wr (Lib.hid (Kd.C_below hC.out HB.out)) hc hr (by omega))
      have htg : tgt l n = if (mapL (rs l) (bl n)).2.2 = true then some (mapL (rs l) (bl n)).1 else none := rfl
      obtain ⟨z, hz⟩ : ∃ z, mapL (rs l) (bl n) = z := ⟨_, rfl⟩
      have HZ := Lib.hid hz
      rw [hz] at HMP htg
      clear hz
      obtain ⟨z1, z2, z3⟩ := z
      unfold mapV at HMP
      go_wp2_with fail
      refine HMP.out.mono ?_
      rintro e w1 ⟨rfl, hb⟩
      have hn1 := pw_cell_below hb h0
      have HB2 := Lib.hid (HB.out.trans (hb.mono HB.out.size))
      have HO8' := Lib.hid (Kd.R_below HO8.out hb)
      have HO9' := Lib.hid (Kd.R_below HO9.out hb)
      clear hb HMP HO8 HO9 h0
      have HO8 := HO8'
      have HO9 := HO9'
      clear HO8' HO9'
      cases z3
      · have HTG := Lib.hid (show tgt l n = none from htg)
        clear htg
        go_wp2_with fail
        go_loopw [14, 6, 7] (fun v14 v6 v7 wx => v14 = .int .i64 0 ∧ v6 = .string (mk r1) ∧ v7 = .bool r2 ∧ wx = w1) (fun _ _ _ _ => 0)
        case atStart => exact ⟨rfl, rfl, rfl, rfl⟩
        case round =>
          obtain ⟨rfl, rfl, rfl, rfl⟩ := hrel
          have HST : Hid (Least (Bad (tgt l) (L.take i ++ [n])) (r1, r2)) := Lib.hid (HL.out.congr fun t => Bad.skip _ _ _ HTG.out t)
          by_cases hi0 : 0 < i
          · go_wp2_with (first | ((with_reducible refine gate_builtin (b := .append) (xs := #[.tmp 72, .tmp 74]) rfl ?_); at_builtin; refine Kd.R_append Kd.string (w0 := w) w.heap.size rfl (.tmp 72) (.tmp 74) 40 9 (.string ⟨#[]⟩) 16 rfl Tryd.underlying40 info9 rfl (by decide) (by omega) (.slice Ao i co) ts (mk z1) [.string (mk z1)] (fun _ => True) (fun _ => False) rfl rfl ?aP (fun _ hk => hk.elim) ?aF ?aO ?aB ?aS ?aL ?_; (case aP => exact rfl); (case aB => exact (by repeat (first | (with_reducible first | exact HB2.out | apply below_alloc | apply pw_below_drewN | apply below_drew1) | exact HB2.out))); (case aF => exact (fun _ _ => trivial)); (case aO => exact (by (with_reducible repeat (first | apply Kd.R_alloc | apply Kd.R_drewN | apply Kd.R_drew)); exact HO8.out)); (case aS => exact (below_size (by repeat (first | (with_reducible first | exact HB2.out | apply below_alloc | apply pw_below_drewN | apply below_drew1) | exact HB2.out)))); (case aL => omega); intro v214 w35 ho hb hg hat; have n0_ := Lib.hid (Kd.R_over' (by (with_reducible repeat (first | apply Kd.R_alloc | apply Kd.R_drewN | apply Kd.R_drew)); exact HO9.out) (Kd.R_typed (by (with_reducible repeat (first | apply Kd.R_alloc | apply Kd.R_drewN | apply Kd.R_drew)); exact HO8.out)) (by decide) hg); have n1_ := Lib.hid (hb); have n2_ := Lib.hid (ho); clear HO9; clear HB2; clear HO8; have HO9 := n0_; have HB2 := n1_; have HO8 := n2_; clear n0_ n1_ n2_; clear ho hb hg hat) | ((with_reducible refine gate_builtin (b := .append) (xs := #[.tmp 76, .tmp 78]) rfl ?_); at_builtin; refine Kd.R_append Kd.bool (w0 := w) w.heap.size rfl (.tmp 76) (.tmp 78) 73 4 (.bool false) 1 rfl Tryd.underlying73 info4 rfl (by decide) (by omega) (.slice Ah i ch) hs false [.bool false] (fun _ => True) (fun _ => False) rfl rfl ?aP (fun _ hk => hk.elim) ?aF ?aO ?aB ?aS ?aL ?_; (case aP => exact rfl); (case aB => exact (by repeat (first | (with_reducible first | exact HB2.out | apply below_alloc | apply pw_below_drewN | apply below_drew1) | exact HB2.out))); (case aF => exact (fun _ _ => trivial)); (case aO => exact (by (with_reducible repeat (first | apply Kd.R_alloc | apply Kd.R_drewN | apply Kd.R_drew)); exact HO9.out)); (case aS => exact (below_size (by repeat (first | (with_reducible first | exact HB2.out | apply below_alloc | apply pw_below_drewN | apply below_drew1) | exact HB2.out)))); (case aL => omega); intro v217 w36 ho hb hg hat; have n0_ := Lib.hid (Kd.R_over' (by (with_reducible repeat (first | apply Kd.R_alloc | apply Kd.R_drewN | apply Kd.R_drew)); exact HO8.out) (Kd.R_typed (by (with_reducible repeat (first | apply Kd.R_alloc | apply Kd.R_drewN | apply Kd.R_drew)); exact HO9.out)) (by decide) hg); have n1_ := Lib.hid (hb); have n2_ := Lib.hid (ho); clear HO8; clear HB2; clear HO9; have HO8 := n0_; have HB2 := n1_; have HO9 := n2_; clear n0_ n1_ n2_; clear ho hb hg hat))
            go_roundw
            case rel => exact ⟨i + 1, (r1, r2), ts ++ [mk z1], hs ++ [false], by omega, by go_num, rfl, rfl, HB2.out, HO8.out, HO9.out, by rw [HTK.out]; exact HST.out, by rw [HTK.out, List.map_append, ← HTS.out, List.map_singleton, HZ.out], by rw [HTK.out, List.map_append, ← HHS.out, List.map_singleton, HZ.out]⟩
            case measure => simp [intOf]; omega
          · go_wp2_with (first | ((with_reducible refine gate_builtin (b := .append) (xs := #[.tmp 72, .tmp 74]) rfl ?_); at_builtin; refine Kd.R_append Kd.string (w0 := w) w.heap.size rfl (.tmp 72) (.tmp 74) 40 9 (.string ⟨#[]⟩) 16 rfl Tryd.underlying40 info9 rfl (by decide) (by omega) (.slice Ao i co) ts (mk z1) [.string (mk z1)] (fun _ => True) (fun _ => False) rfl rfl ?aP (fun _ hk => hk.elim) ?aF ?aO ?aB ?aS ?aL ?_; (case aP => exact rfl); (case aB => exact (by repeat (first | (with_reducible first | exact HB2.out | apply below_alloc | apply pw_below_drewN | apply below_drew1) | exact HB2.out))); (case aF => exact (fun _ _ => trivial)); (case aO => exact (by (with_reducible repeat (first | apply Kd.R_alloc | apply Kd.R_drewN | apply Kd.R_drew)); exact HO8.out)); (case aS => exact (below_size (by repeat (first | (with_reducible first | exact HB2.out | apply below_alloc | apply pw_below_drewN | apply below_drew1) | exact HB2.out)))); (case aL => omega); intro v214 w35 ho hb hg hat; have n0_ := Lib.hid (Kd.R_over' (by (with_reducible repeat (first | apply Kd.R_alloc | apply Kd.R_drewN | apply Kd.R_drew)); exact HO9.out) (Kd.R_typed (by (with_reducible repeat (first | apply Kd.R_alloc | apply Kd.R_drewN | apply Kd.R_drew)); exact HO8.out)) (by decide) hg); have n1_ := Lib.hid (hb); have n2_ := Lib.hid (ho); clear HO9; clear HB2; clear HO8; have HO9 := n0_; have HB2 := n1_; have HO8 := n2_; clear n0_ n1_ n2_; clear ho hb hg hat) | ((with_reducible refine gate_builtin (b := .append) (xs := #[.tmp 76, .tmp 78]) rfl ?_); at_builtin; refine Kd.R_append Kd.bool (w0 := w) w.heap.size rfl (.tmp 76) (.tmp 78) 73 4 (.bool false) 1 rfl Tryd.underlying73 info4 rfl (by decide) (by omega) (.slice Ah i ch) hs false [.bool false] (fun _ => True) (fun _ => False) rfl rfl ?aP (fun _ hk => hk.elim) ?aF ?aO ?aB ?aS ?aL ?_; (case aP => exact rfl); (case aB => exact (by repeat (first | (with_reducible first | exact HB2.out | apply below_alloc | apply pw_below_drewN | apply below_drew1) | exact HB2.out))); (case aF => exact (fun _ _ => trivial)); (case aO => exact (by (with_reducible repeat (first | apply Kd.R_alloc | apply Kd.R_drewN | apply Kd.R_drew)); exact HO9.out)); (case aS => exact (below_size (by repeat (first | (with_reducible first | exact HB2.out | apply below_alloc | apply pw_below_drewN | apply below_drew1) | exact HB2.out)))); (case aL => omega); intro v217 w36 ho hb hg hat; have n0_ := Lib.hid (Kd.R_over' (by (with_reducible repeat (first | apply Kd.R_alloc | apply Kd.R_drewN | apply Kd.R_drew)); exact HO8.out) (Kd.R_typed (by (with_reducible repeat (first | apply Kd.R_alloc | apply Kd.R_drewN | apply Kd.R_drew)); exact HO9.out)) (by decide) hg); have n1_ := Lib.hid (hb); have n2_ := Lib.hid (ho); clear HO8; clear HB2; clear HO9; have HO8 := n0_; have HB2 := n1_; have HO9 := n2_; clear n0_ n1_ n2_; clear ho hb hg hat))
            go_roundw
            case rel => exact ⟨i + 1, (r1, r2), ts ++ [mk z1], hs ++ [false], by omega, by go_num, rfl, rfl, HB2.out, HO8.out, HO9.out, by rw [HTK.out]; exact HST.out, by rw [HTK.out, List.map_append, ← HTS.out, List.map_singleton, HZ.out], by rw [HTK.out, List.map_append, ← HHS.out, List.map_singleton, HZ.out]⟩
            case measure => simp [intOf]; omega
      · have HTG := Lib.hid (show tgt l n = some z1 from htg)
        clear htg
        go_wp2_with fail
        go_loopw [14, 6, 7] (fun v14 v6 v7 wx => ∃ (k : Nat) (r : By × Bool), k ≤ i ∧ v14 = .int .i64 k ∧ v6 = .string (mk r.1) ∧ v7 = .bool r.2 ∧ Below w.heap.size w wx ∧ Kd.R Kd.string 9 wx w.heap.size (fun _ => True) (.slice Ao i co) ts ∧ Kd.R Kd.bool 4 wx w.heap.size (fun _ => True) (.slice Ah i ch) hs ∧ Least (BadK (tgt l) (L.take i) k n z1) r) (fun v14 _ _ _ => i - (intOf v14).toNat)
        case atStart => exact ⟨0, (r1, r2), Nat.zero_le _, rfl, rfl, rfl, HB2.out, HO8.out, HO9.out, HL.out.congr fun t => BadK.zero _ _ _ _ t⟩
        case round =>
          clear HL HB2 HO8 HO9 hn1
          obtain ⟨k, ⟨q1, q2⟩, hk, rfl, rfl, rfl, hb3, hp8, hp9, hl3⟩ := hrel
          have HB3 := Lib.hid hb3
          have HP8 := Lib.hid hp8
          have HP9 := Lib.hid hp9
          have HL3 := Lib.hid hl3
          clear hb3 hp8 hp9 hl3
          by_cases hk2 : k < i
          · obtain ⟨ad2, e2, h0⟩ := name_at (Kd.C_below hD.out HB3.out) i hlt
            obtain rfl := Option.some.inj e2
            obtain ⟨ad3, e3, h1⟩ := name_at (Kd.C_below hD.out HB3.out) k (by omega)
            obtain rfl := Option.some.inj e3
            obtain ⟨adt, rfl, h2⟩ := name_at (Kd.R_reads' HP8.out).2.2 k (by omega)
            obtain ⟨adh, rfl, h3⟩ := flag_at (Kd.R_reads' HP9.out).2.2 k (by omega)
            have hkl : k < (L.take i).length := by omega
            have ek : (L.take i)[k] = L[k] := List.getElem_take
            have NC := fun hx => no_clash HL3.out hkl hx
            have AC := fun hx => a_clash HL3.out hkl hx
            rw [ek] at NC AC
            have et : ts[k] = mk (mapL (rs l) (bl L[k])).1 := by simp only [HTS.out, List.getElem_map, ek]
            have eh : hs[k] = (mapL (rs l) (bl L[k])).2.2 := by simp only [HHS.out, List.getElem_map, ek]
            rw [et] at h2
            rw [eh] at h3
            rw [HN.out] at h0
            have hta : tgt l L[k] = if (mapL (rs l) (bl L[k])).2.2 = true then some (mapL (rs l) (bl L[k])).1 else none := rfl
            obtain ⟨a, ha⟩ : ∃ a, L[k] = a := ⟨_, rfl⟩
            rw [ha] at h1 h2 h3 hta NC AC
            clear ha et eh ek
            obtain ⟨y, hy⟩ : ∃ y, mapL (rs l) (bl a) = y := ⟨_, rfl⟩
            rw [hy] at h2 h3 hta
            clear hy
            obtain ⟨y1, y2, y3⟩ := y
            have HNC := Lib.hid NC
            have HAC := Lib.hid AC
            clear NC AC
            cases y3
            · have HST := Lib.hid (HNC.out (by rw [hta]; simp))
              clear hta
              go_wp2_with fail
              go_quiet (fail)
              go_wp2_with fail
              go_roundw
              case rel => exact ⟨k + 1, (q1, q2), by omega, by go_num, rfl, rfl, pw_below_drewN HB3.out _, by apply Kd.R_drewN; exact HP8.out, by apply Kd.R_drewN; exact HP9.out, HST.out⟩
              case measure => simp [intOf]; omega
            · have hta : tgt l a = some y1 := hta
              cases qt : ((mk y1).toList == (mk z1).toList)
              · have HST := Lib.hid (HNC.out (by rw [hta]; rintro ⟨e, _⟩; rw [Option.some.inj e] at qt; simp at qt))
                clear hta
                go_wp2_with fail
                go_quiet (fail)
                go_wp2_with fail
                go_roundw
                case rel => exact ⟨k + 1, (q1, q2), by omega, by go_num, rfl, rfl, pw_below_drewN HB3.out _, by apply Kd.R_drewN; exact HP8.out, by apply Kd.R_drewN; exact HP9.out, HST.out⟩
                case measure => simp [intOf]; omega
              · have ey : y1 = z1 := mk_inj (toList_inj qt)
                cases qn : (a.toList == n.toList)
                · have hcl : tgt l a = some z1 ∧ a ≠ n := ⟨by rw [hta, ey], fun e => by rw [e] at qn; simp at qn⟩
                  have HST := Lib.hid (HAC.out hcl)
                  clear hcl hta ey
                  cases q2
                  · have HST : Hid (Least (BadK (tgt l) (L.take i) (k + 1) n z1) (z1, true)) := HST
                    go_wp2_with fail
                    go_quiet (fail)
                    go_wp2_with fail
                    go_roundw
                    case rel => exact ⟨k + 1, (z1, true), by omega, by go_num, rfl, rfl, pw_below_drewN HB3.out _, by apply Kd.R_drewN; exact HP8.out, by apply Kd.R_drewN; exact HP9.out, HST.out⟩
                    case measure => simp [intOf]; omega
                  · cases hbl : Op.bytesLess z1 q1
                    · have hbl2 : Op.bytesLess (mk z1).toList (mk q1).toList = false := by rw [toList_bl, toList_bl, bl_mk, bl_mk]; exact hbl
                      rw [hbl] at HST
                      have HST : Hid (Least (BadK (tgt l) (L.take i) (k + 1) n z1) (q1, true)) := HST
                      clear hbl
                      go_wp2_with fail
                      go_quiet (fail)
                      go_wp2_with fail
                      go_roundw
                      case rel => exact ⟨k + 1, (q1, true), by omega, by go_num, rfl, rfl, pw_below_drewN HB3.out _, by apply Kd.R_drewN; exact HP8.out, by apply Kd.R_drewN; exact HP9.out, HST.out⟩
                      case measure => simp [intOf]; omega
                    · have hbl2 : Op.bytesLess (mk z1).toList (mk q1).toList = true := by rw [toList_bl, toList_bl, bl_mk, bl_mk]; exact hbl
                      rw [hbl] at HST
                      have HST : Hid (Least (BadK (tgt l) (L.take i) (k + 1) n z1) (z1, true)) := HST
                      clear hbl
                      go_wp2_with fail
                      go_quiet (fail)
                      go_wp2_with fail
                      go_roundw
                      case rel => exact ⟨k + 1, (z1, true), by omega, by go_num, rfl, rfl, pw_below_drewN HB3.out _, by apply Kd.R_drewN; exact HP8.out, by apply Kd.R_drewN; exact HP9.out, HST.out⟩
                      case measure => simp [intOf]; omega
                · have HST := Lib.hid (HNC.out (by rintro ⟨_, e⟩; exact e (toList_inj qn)))
                  clear hta ey
                  go_wp2_with fail
                  go_quiet (fail)
                  go_wp2_with fail
                  go_roundw
                  case rel => exact ⟨k + 1, (q1, q2), by omega, by go_num, rfl, rfl, pw_below_drewN HB3.out _, by apply Kd.R_drewN; exact HP8.out, by apply Kd.R_drewN; exact HP9.out, HST.out⟩
                  case measure => simp [intOf]; omega
          · have hkk : k = i := by omega
            have HST : Hid (Least (Bad (tgt l) (L.take i ++ [n])) (q1, q2)) := Lib.hid (HL3.out.congr fun t => by rw [BadK.all _ _ _ HTG.out t, hli, hkk])
            clear hkk HL3
            have HB2 := HB3
            have HO8 := HP8
            have HO9 := HP9
            clear HB3 HP8 HP9
            go_wp2_with (first | ((with_reducible refine gate_builtin (b := .append) (xs := #[.tmp 72, .tmp 74]) rfl ?_); at_builtin; refine Kd.R_append Kd.string (w0 := w) w.heap.size rfl (.tmp 72) (.tmp 74) 40 9 (.string ⟨#[]⟩) 16 rfl Tryd.underlying40 info9 rfl (by decide) (by omega) (.slice Ao i co) ts (mk z1) [.string (mk z1)] (fun _ => True) (fun _ => False) rfl rfl ?aP (fun _ hk => hk.elim) ?aF ?aO ?aB ?aS ?aL ?_; (case aP => exact rfl); (case aB => exact (by repeat (first | (with_reducible first | exact HB2.out | apply below_alloc | apply pw_below_drewN | apply below_drew1) | exact HB2.out))); (case aF => exact (fun _ _ => trivial)); (case aO => exact (by (with_reducible repeat (first | apply Kd.R_alloc | apply Kd.R_drewN | apply Kd.R_drew)); exact HO8.out)); (case aS => exact (below_size (by repeat (first | (with_reducible first | exact HB2.out | apply below_alloc | apply pw_below_drewN | apply below_drew1) | exact HB2.out)))); (case aL => omega); intro v214 w35 ho hb hg hat; have n0_ := Lib.hid (Kd.R_over' (by (with_reducible repeat (first | apply Kd.R_alloc | apply Kd.R_drewN | apply Kd.R_drew)); exact HO9.out) (Kd.R_typed (by (with_reducible repeat (first | apply Kd.R_alloc | apply Kd.R_drewN | apply Kd.R_drew)); exact HO8.out)) (by decide) hg); have n1_ := Lib.hid (hb); have n2_ := Lib.hid (ho); clear HO9; clear HB2; clear HO8; have HO9 := n0_; have HB2 := n1_; have HO8 := n2_; clear n0_ n1_ n2_; clear ho hb hg hat) | ((with_reducible refine gate_builtin (b := .append) (xs := #[.tmp 76, .tmp 78]) rfl ?_); at_builtin; refine Kd.R_append Kd.bool (w0 := w) w.heap.size rfl (.tmp 76) (.tmp 78) 73 4 (.bool false) 1 rfl Tryd.underlying73 info4 rfl (by decide) (by omega) (.slice Ah i ch) hs true [.bool true] (fun _ => True) (fun _ => False) rfl rfl ?aP (fun _ hk => hk.elim) ?aF ?aO ?aB ?aS ?aL ?_; (case aP => exact rfl); (case aB => exact (by repeat (first | (with_reducible first | exact HB2.out | apply below_alloc | apply pw_below_drewN | apply below_drew1) | exact HB2.out))); (case aF => exact (fun _ _ => trivial)); (case aO => exact (by (with_reducible repeat (first | apply Kd.R_alloc | apply Kd.R_drewN | apply Kd.R_drew)); exact HO9.out)); (case aS => exact (below_size (by repeat (first | (with_reducible first | exact HB2.out | apply below_alloc | apply pw_below_drewN | apply below_drew1) | exact HB2.out)))); (case aL => omega); intro v217 w36 ho hb hg hat; have n0_ := Lib.hid (Kd.R_over' (by (with_reducible repeat (first | apply Kd.R_alloc | apply Kd.R_drewN | apply Kd.R_drew)); exact HO8.out) (Kd.R_typed (by (with_reducible repeat (first | apply Kd.R_alloc | apply Kd.R_drewN | apply Kd.R_drew)); exact HO9.out)) (by decide) hg); have n1_ := Lib.hid (hb); have n2_ := Lib.hid (ho); clear HO8; clear HB2; clear HO9; have HO8 := n0_; have HB2 := n1_; have HO9 := n2_; clear n0_ n1_ n2_; clear ho hb hg hat))
            go_roundw
            case rel => exact ⟨i + 1, (q1, q2), ts ++ [mk z1], hs ++ [true], by omega, by go_num, rfl, rfl, HB2.out, HO8.out, HO9.out, by rw [HTK.out]; exact HST.out, by rw [HTK.out, List.map_append, ← HTS.out, List.map_singleton, HZ.out], by rw [HTK.out, List.map_append, ← HHS.out, List.map_singleton, HZ.out]⟩
            case measure => simp [intOf]; omega
    · go_wp2_with fail
      go_ret2
      exact ⟨(r1, r2), rfl, by rw [List.take_of_length_le (by omega)] at HL; exact HL.out, HB.out⟩
end Go.Proofs.YtnolfopgijgpcaaDoor.Rm
