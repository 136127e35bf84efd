/- A map with ids (arrays of 32 bytes) as keys, as its block holds it: the list of its entries in the order in which they came. Look-up, store, delete, len. -/
import Derived.Test.YtfbkkcigkpffiaaDoorSdF
import Derived.Stop.BytesEq
import Derived.MapKept
import Derived.WideKeyRuns
import Derived.Maps.Own
import Derived.Maps.RangeRun
namespace Go.Proofs.YtfbkkcigkpffiaaDoor.St
open Go Go.Lib Go.RowKit Go.ChangeMaps Go.Proofs.YtfbkkcigkpffiaaDoorW.PrintWords Go.Proofs.YtfbkkcigkpffiaaDoorW.PrintLast Go.Proofs.YtfbkkcigkpffiaaDoorW.PrintMore Go.Proofs.YtfbkkcigkpffiaaDoor.PStoreMany
open Go.MapKept (heap_set)
set_option linter.unusedVariables false
set_option linter.unusedSimpArgs false
set_option maxRecDepth 200000
abbrev KV := List (By × Value)
def kget : KV → By → Option Value
  | [], _ => none
  | (a, v) :: r, k => if a = k then some v else kget r k
def kput : KV → By → Value → KV
  | [], k, v => [(k, v)]
  | (a, x) :: r, k, v => if a = k then (a, v) :: r else (a, x) :: kput r k v
def kdel : KV → By → KV
  | [], _ => []
  | (a, x) :: r, k => if a = k then r else (a, x) :: kdel r k
def F (e : MapEntry) : Value × Value := (e.key, e.val)
def G (x : By × Value) : Value × Value := (vId x.1, x.2)
/-- Block b is a map of just these entries, in this order. -/
def IMap (w : World) (b : Nat) (kv : KV) : Prop :=
  ∃ es clock, w.heap[b]? = some (.map es clock) ∧ es.toList.map F = kv.map G ∧ (∀ e ∈ es.toList, e.born < clock) ∧ (es.toList.map (·.born)).Nodup ∧ ∀ x ∈ kv, x.1.length = 32
theorem equal33 {a b : By} (ha : a.length = 32) (hb : b.length = 32) (w : World) : (Op.equal 33 (vId a) (vId b)).run Tryd.prog w = .ok (decide (b = a)) w := by
  have h := run_equalIn_bytes (P := Tryd.prog) w 9998 33 5 32 Tryd.underlying33 Tryd.underlying5 Tryd.sizeOf5 a b ha hb
  refine h.trans ?_
  congr 1
  rw [Bool.eq_iff_iff, beq_iff_eq, decide_eq_true_eq]
  exact eq_comm
theorem check_n {d : By} (hd : d.length = 32) (em : Bool) (n : Nat) (w : World) : (Instr.checkKey em (n + 2) 33 (vId d)).run Tryd.prog w = .ok () w := by
  rw [Instr.checkKey]
  simp only [Sem.run_bind, run_underlying Tryd.underlying33, Result.andThen_ok, Tryd.sizeOf5, Std.Legacy.Range.forIn_eq_forIn_range', Std.Legacy.Range.size, Nat.sub_zero, Nat.add_sub_cancel, Nat.div_one]
  have hl : ∀ i ∈ List.range' 0 32 1, i < 32 := fun i hi => (List.mem_range'_1.1 hi).2
  generalize List.range' 0 32 1 = l at hl ⊢
  induction l with
  | nil => simp
  | cons i l ih =>
    have hi : i < 32 := hl i (List.mem_cons_self ..)
    have px : (part 5 (cl d).toArray (i * 1)).run Tryd.prog w = .ok (b8 ((d.getD i 0).toNat : Int)) w := by
      simp [part, isAgg, run_underlying Tryd.underlying5, List.getD, List.getElem?_eq_getElem (show i < d.length by omega)]
    have pc : (Instr.checkKey em (n + 1) 5 (b8 ((d.getD i 0).toNat : Int))).run Tryd.prog w = .ok () w := by
      simp [Instr.checkKey, run_underlying Tryd.underlying5]
    have hih := ih fun j hj => hl j (List.mem_cons_of_mem _ hj)
    simp only [List.forIn_cons, Sem.run_bind, Tryd.sizeOf5, px, pc, Result.andThen_ok, Sem.run_pure] at hih ⊢
    exact hih
theorem check33 {d : By} (hd : d.length = 32) (em : Bool) (w : World) : (Instr.checkKey em 10000 33 (vId d)).run Tryd.prog w = .ok () w := check_n hd em 9998 w
theorem find_ix (w : World) {k : By} (hk : k.length = 32) : ∀ (l : List MapEntry) (kv : KV), l.map F = kv.map G → (∀ x ∈ kv, x.1.length = 32) →
    (kget kv k = none ∧ (∀ v, kput kv k v = kv ++ [(k, v)]) ∧ kdel kv k = kv ∧ ∀ i, (Instr.findAsking 33 (vId k) l i).run Tryd.prog w = .ok none w) ∨
    ∃ j v e, kget kv k = some v ∧ l[j]? = some e ∧ e.val = v ∧ e.key = vId k ∧ (∀ i, (Instr.findAsking 33 (vId k) l i).run Tryd.prog w = .ok (some (i + j, v)) w) ∧
      (∀ v', (l.modify j (fun e => { e with key := vId k, val := v' })).map F = (kput kv k v').map G) ∧ (l.eraseIdx j).map F = (kdel kv k).map G
  | [], [], _, _ => .inl ⟨rfl, fun _ => rfl, rfl, fun _ => rfl⟩
  | [], _ :: _, h, _ => by simp at h
  | _ :: _, [], h, _ => by simp at h
  | e :: l, (a, x) :: kv, h, hl32 => by
    simp only [List.map_cons, List.cons.injEq] at h
    obtain ⟨he, hl⟩ := h
    have hkey : e.key = vId a := congrArg Prod.fst he
    have hx : e.val = x := congrArg Prod.snd he
    have ha32 : a.length = 32 := hl32 (a, x) (by simp)
    have heq := equal33 hk ha32 w
    by_cases ha : a = k
    · subst ha
      right
      refine ⟨0, x, e, by simp [kget], rfl, hx, hkey, fun i => ?_, fun v' => ?_, ?_⟩
      · rw [Instr.findAsking, hkey]
        simp only [Sem.run_bind, heq, Result.andThen_ok, decide_true, if_true, Sem.run_pure, hx, Nat.add_zero]
      · simp [kput, F, G]; exact hl
      · simp [kdel]; exact hl
    · have hne : decide (a = k) = false := by simpa using ha
      have step : ∀ i, (Instr.findAsking 33 (vId k) (e :: l) i).run Tryd.prog w = (Instr.findAsking 33 (vId k) l (i + 1)).run Tryd.prog w := fun i => by
        rw [Instr.findAsking, hkey]
        simp only [Sem.run_bind, heq, Result.andThen_ok, hne, Bool.false_eq_true, if_false]
      rcases find_ix w hk l kv hl (fun y hy => hl32 y (List.mem_cons_of_mem _ hy)) with ⟨h1, h2, h3, h4⟩ | ⟨j, v, e', h1, h2, h3, h4, h5, h6, h7⟩
      · left
        refine ⟨by simp [kget, ha, h1], fun v => by simp [kput, ha, h2], by simp [kdel, ha, h3], fun i => ?_⟩
        rw [step, h4]
      · right
        refine ⟨j + 1, v, e', by simp [kget, ha, h1], by simpa using h2, h3, h4, fun i => ?_, fun v' => ?_, ?_⟩
        · rw [step, h5]; congr 3; omega
        · simp only [List.modify_succ_cons, List.map_cons, kput, ha, if_false]; rw [h6, he]
        · simp only [List.eraseIdx_cons_succ, List.map_cons, kdel, ha, if_false]; rw [h7, he]
theorem findKey33 (w : World) (x : Value) (es : List MapEntry) : (Instr.findKey 33 x es).run Tryd.prog w = (Instr.findAsking 33 x es).run Tryd.prog w :=
  run_findKey_eq w (by rw [Tryd.underlying33]) x es
theorem modify_same {α β : Type} (g : α → β) (j : Nat) (f : α → α) (h : ∀ e, g (f e) = g e) (l : List α) : (l.modify j f).map g = l.map g := by
  induction l generalizing j with
  | nil => simp
  | cons a r ih =>
    cases j with
    | zero => simp [h]
    | succ j => simp [ih j]
section
variable {w : World} {b : Nat} {kv : KV}
theorem IMap.lt (h : IMap w b kv) : b < w.heap.size := by
  obtain ⟨es, c, hb, _⟩ := h
  exact (Array.getElem?_eq_some_iff.1 hb).1
theorem IMap.of_block {w' : World} (h : IMap w b kv) (e : w'.heap[b]? = w.heap[b]?) : IMap w' b kv := by
  obtain ⟨es, c, hb, r⟩ := h
  exact ⟨es, c, e.trans hb, r⟩
theorem IMap.below {w' : World} (h : IMap w b kv) (hb : Below w.heap.size w w') : IMap w' b kv := h.of_block (hb.block b h.lt)
theorem IMap.made (w : World) : IMap (w.alloc (.map #[] 0)) w.heap.size [] := ⟨#[], 0, (MapKept.heap_alloc w _).1, rfl, by simp, by simp, fun x hx => by cases hx⟩
theorem IMap.lookup (h : IMap w b kv) {k : By} (hk : k.length = 32) (c : Bool) :
    (Instr.lookup 70 (.map (some b)) (vId k) c).run Tryd.prog w = .ok (if c then .tuple #[(kget kv k).getD (.slice none 0 0), .bool (kget kv k).isSome] else (kget kv k).getD (.slice none 0 0)) w := by
  obtain ⟨es, clock, hb, hm, _, _, h32⟩ := h
  have h1 := check33 hk es.isEmpty w
  have hz := Tryd.zeroValue30 w
  rcases find_ix w hk es.toList kv hm h32 with ⟨g1, _, _, g4⟩ | ⟨j, v, e, g1, _, _, _, g5, _, _⟩
  · have h2 := (findKey33 w (vId k) es.toList).trans (g4 0)
    simp [Instr.lookup, run_underlying Tryd.underlying70, MapKept.run_getObj_map (P := Tryd.prog) hb, Result.andThen, h1, h2, hz, g1]
  · have h2 := (findKey33 w (vId k) es.toList).trans (g5 0)
    simp [Instr.lookup, run_underlying Tryd.underlying70, MapKept.run_getObj_map (P := Tryd.prog) hb, Result.andThen, h1, h2, g1]
theorem same_bits (d : By) (n : Nat) : Instr.sameBits (n + 1) (vId d) (vId d) = true := by
  simp only [Instr.sameBits]
  simp only [beq_self_eq_true, Bool.true_and, List.all_eq_true]
  intro x hx
  obtain ⟨i, hi, he⟩ := List.mem_iff_getElem.1 hx
  rw [List.getElem_zip] at he
  subst he
  simp [Instr.sameBits]
theorem IMap.update (h : IMap w b kv) {k : By} (hk : k.length = 32) (v : Value) :
    ∃ o, (Instr.mapUpdate 70 (.map (some b)) (vId k) v).run Tryd.prog w = .ok () (setBlock w b o) ∧ IMap (setBlock w b o) b (kput kv k v) := by
  have hlt := h.lt
  obtain ⟨es, clock, hb, hm, hborn, hnd, h32⟩ := h
  have h1 := check33 hk false w
  rcases find_ix w hk es.toList kv hm h32 with ⟨g1, g2, _, g4⟩ | ⟨j, v0, e, g1, ge, _, gk, g5, g6, _⟩
  · have h2 := (findKey33 w (vId k) es.toList).trans (g4 0)
    refine ⟨.map (es.push { key := vId k, val := v, born := clock }) (clock + 1), ?_, _, _, (heap_set hb).1, ?_, ?_, ?_, ?_⟩
    · simp [Instr.mapUpdate, run_underlying Tryd.underlying70, MapKept.run_getObj_map (P := Tryd.prog) hb, Result.andThen, h1, h2, MapKept.run_setObj_map (P := Tryd.prog) _ hb, setBlock]
    · rw [g2]; simp [hm, F, G]
    · intro e he
      simp at he
      rcases he with he | rfl
      · have := hborn e (by simpa using he); omega
      · simp
    · simp only [Array.toList_push, List.map_append, List.map_cons, List.map_nil]
      rw [List.nodup_append]
      refine ⟨hnd, by simp, ?_⟩
      intro x hx y hy
      simp at hy
      subst hy
      obtain ⟨e, he, rfl⟩ := List.mem_map.1 hx
      have := hborn e he
      omega
    · rw [g2]
      intro x hx
      rcases List.mem_append.1 hx with hx | hx
      · exact h32 x hx
      · rw [List.mem_singleton.1 hx]; exact hk
  · have h2 := (findKey33 w (vId k) es.toList).trans (g5 0)
    have hj : es[j]? = some e := by rw [← Array.getElem?_toList]; exact ge
    have hstay : (Instr.keyThatStays (vId k) (vId k)).run Tryd.prog w = .ok (vId k) w := by
      unfold Instr.keyThatStays
      rw [show (10000 : Nat) = 9999 + 1 from rfl, same_bits]
      rfl
    refine ⟨.map (es.modify j fun e => { e with key := vId k, val := v }) clock, ?_, _, _, (heap_set hb).1, ?_, ?_, ?_, ?_⟩
    · simp only [Instr.mapUpdate, Sem.run_bind, run_underlying Tryd.underlying70, MapKept.run_getObj_map (P := Tryd.prog) hb, Result.andThen, h1, h2, Nat.zero_add, hj, Option.map_some, Option.getD_some, gk, hstay]
      simp [MapKept.run_setObj_map (P := Tryd.prog) _ hb, setBlock]
    · rw [Array.toList_modify]; exact g6 v
    · intro x hx
      rw [Array.toList_modify] at hx
      have : x.born ∈ (es.toList.modify j fun e => { e with key := vId k, val := v }).map (·.born) := List.mem_map_of_mem hx
      rw [modify_same MapEntry.born j (fun e => { e with key := vId k, val := v }) (fun _ => rfl)] at this
      obtain ⟨y, hy, e1⟩ := List.mem_map.1 this
      rw [← e1]; exact hborn y hy
    · rw [Array.toList_modify, modify_same MapEntry.born j (fun e => { e with key := vId k, val := v }) (fun _ => rfl)]; exact hnd
    · intro x hx
      have hmem : ∀ (kv : KV) (x : By × Value), (∀ y ∈ kv, y.1.length = 32) → x ∈ kput kv k v → x.1.length = 32 := by
        intro kv
        induction kv with
        | nil => intro x _ hx; simp [kput] at hx; rw [hx]; exact hk
        | cons y r ih =>
          intro x h hx
          unfold kput at hx
          split at hx
          · rename_i hyk
            rcases List.mem_cons.1 hx with rfl | hx
            · exact h y (by simp)
            · exact h x (List.mem_cons_of_mem _ hx)
          · rcases List.mem_cons.1 hx with rfl | hx
            · exact h y (by simp)
            · exact ih x (fun z hz => h z (List.mem_cons_of_mem _ hz)) hx
      exact hmem kv x h32 hx
theorem wpList_put {ops : Array Oper} {rest : List Oper} {o : Oper} {a : Act} {Q : Exit → Act → World → Prop} (h : IMap w b kv)
    (hg : o.guard = none) (m x v : Operand) (hop : o.op = Op.mapUpdate 70 m x v)
    (hm : a.eval m = .map (some b)) (k : By) (hk : k.length = 32) (val : Value) (hx : a.eval x = vId k) (hv : a.eval v = val)
    (hn : ∀ w', IMap w' b (kput kv k val) → w.grownBy w' (some b) → wpList Tryd.prog ops Q rest (a.put o.dst undef) w') : wpList Tryd.prog ops Q (o :: rest) a w := by
  refine wpList_plain hg fun K' hK' => ?_
  obtain ⟨ob, hrun, r1⟩ := h.update hk val
  obtain ⟨es, clock, hb, _⟩ := h
  unfold Oper.wp
  simp [execOp, hop, hm, hx, hv, hrun, Result.andThen]
  exact hK' _ _ (hn _ r1 ⟨rfl, rfl, rfl, by simp [setBlock], fun i _ hi => (heap_set hb).2 i (fun e => hi (by rw [e]))⟩)
end
end Go.Proofs.YtfbkkcigkpffiaaDoor.St
