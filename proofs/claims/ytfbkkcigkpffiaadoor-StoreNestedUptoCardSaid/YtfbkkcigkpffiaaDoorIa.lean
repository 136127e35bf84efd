/- Regions within a round of a range over a function, walked by the plain laws. -/
import Derived.Test.YtfbkkcigkpffiaaDoorGm
import Derived.RangeFuncNested
import Derived.RangeFuncBound
import Derived.RangeFuncCalls
import Derived.RangeFuncLeaves
import Derived.TacticsInMore
import Derived.LoopIn
import Derived.OrdersIn
namespace Go.Proofs.YtfbkkcigkpffiaaDoor.St
open Go Go.Lib Go.RowKit Go.ChangeMaps Go.Proofs.YtfbkkcigkpffiaaDoorW.PrintWords Go.Proofs.YtfbkkcigkpffiaaDoorW.PrintLast Go.Proofs.YtfbkkcigkpffiaaDoorW.PrintMore Go.Proofs.YtfbkkcigkpffiaaDoor.PStoreMany
set_option linter.unusedVariables false
set_option linter.unusedSimpArgs false
/-- The post of a region that goes on. -/
abbrev Goes (K : Act → World → Prop) : Exit → Act → World → Prop := Exit.then K (fun _ _ _ => False)
theorem goes_no (K : Act → World → Prop) : ¬ LetsOut (Goes K) := fun ⟨_, _, h⟩ => h
/-- No defer statement. -/
def noDefer (o : Oper) : Bool := match o.op with | .defer _ => false | _ => true
theorem noDefer_ne {o : Oper} (h : noDefer o = true) : ∀ c, o.op ≠ .defer c := fun c hc => by
  unfold noDefer at h
  rw [hc] at h
  cases h
theorem rows_in {r n : Nat} {P : Program} {row : String} {args : Array Value} {w : World} {R : Value → World → Prop} (h : Rows P row args w R) : RowsIn (Fence.wide.inRound r) n P row args w R := fun c cs _ => by
  obtain ⟨v, w', hr, hs⟩ := h c cs
  exact ⟨v, w', hr, stepsIn_wide.2 hs⟩
theorem calls_in {r n : Nat} {P : Program} {f : FuncId} {args : Array Value} {w : World} {R : Ending → World → Prop} (h : Calls P f args w R) : CallsIn (Fence.wide.inRound r) n P f args w R :=
  CallsIn.inRound r (callsIn_wide.2 h)
/-- An operation within a round. -/
theorem oper_in {r n : Nat} {P : Program} {o : Oper} (ho : noDefer o = true) {a : Act} {w : World} {K K' K2 : Act → World → Prop} {Q : Exit → Act → World → Prop} (hK : ∀ a w, K a w → K' a w)
    (h : o.wp P a w K (Goes K2)) : o.wpIn (Fence.wide.inRound r) n P a w K' Q := by
  refine ⟨fun _ _ => trivial, ?_⟩
  rw [Oper.semAt_eq _ _ _ (noDefer_ne ho)]
  unfold Oper.wp at h
  generalize (execOp a.eval o).run P w = res at h ⊢
  cases res with
  | ok x w' =>
    cases x <;> simp only [Oper.upon, Oper.uponIn] at h ⊢ <;> first
      | exact hK _ _ h
      | exact ⟨fun hd => by simp [Fence.wide] at hd, calls_in (Calls.mono h (fun e w'' he => by
          cases e with
          | returned v => exact hK _ _ he
          | panicked chain => exact False.elim he
          | outgrown => exact absurd he (goes_no K2)))⟩
      | exact ⟨fun hd => by simp [Fence.wide] at hd, rows_in (Rows.mono h (fun v w'' he => hK _ _ he))⟩
      | exact False.elim h
  | halt x w' =>
    cases x <;> simp only [Oper.upon, Oper.uponIn] at h ⊢ <;> exact False.elim h
theorem list_in {r n : Nat} {P : Program} {ops : Array Oper} {K : Act → World → Prop} {Q : Exit → Act → World → Prop} (hK : ∀ a w, K a w → Q .normal a w) :
    ∀ (l : List Oper), l.all noDefer = true → ∀ a w, wpList P ops (Goes K) l a w → wpListIn (Fence.wide.inRound r) n P ops Q l a w
  | [], _, a, w, h => hK _ _ h
  | o :: l, hd, a, w, h => by
    rw [List.all_cons, Bool.and_eq_true] at hd
    unfold wpList at h
    unfold wpListIn
    by_cases hw : Region.wanted o (yielded ops a.tmps) = true
    · rw [if_pos hw] at h ⊢
      rcases h with h | ⟨_, h⟩
      · exact oper_in hd.1 (fun a w h => list_in hK l hd.2 a w h) h
      · exact absurd h (goes_no K)
    · rw [if_neg hw] at h ⊢
      exact ⟨fun _ _ => trivial, list_in hK l hd.2 _ w h⟩
/-- A region of a round. -/
theorem round_region {id r n : Nat} {P : Program} {l : List Oper} {Q : Exit → Act → World → Prop} {a : Act} {w : World} (hd : l.all noDefer = true)
    (h : ∀ K : Act → World → Prop, (∀ a w, Q .normal a w → K a w) → wpList P l.toArray (Goes K) l a w) : (Code.region id l.toArray false).wpIn (Fence.wide.inRound r) n P Q a w :=
  wpIn_region_lit (list_in (fun _ _ h => h) l hd a w (h _ (fun _ _ h => h)))
theorem any_in {r n : Nat} {P : Program} {md : Region.Mode} {ops : Array Oper} {K : Act → World → Prop} {Q : Exit → Act → World → Prop} (hd : ops.all noDefer = true) (hK : ∀ a w, K a w → Q .normal a w) :
    ∀ (fuel : Nat) (listed : Array Bool) a w, wpAny P md ops (Goes K) fuel listed a w → wpAnyIn (Fence.wide.inRound r) n P md ops Q fuel listed a w
  | 0, _, a, w, h => ⟨h.1, hK _ _ h.2⟩
  | fuel + 1, listed, a, w, h => ⟨fun h0 => hK _ _ (h.1 h0), fun i hi => by
    have h1 := h.2 i hi
    unfold wpOp at h1
    unfold wpOpIn
    cases ho : ops[i]? with
    | none => rw [ho] at h1; exact any_in hd hK fuel _ a w h1
    | some o =>
      rw [ho] at h1
      have hod : noDefer o = true := by
        obtain ⟨hi2, rfl⟩ := Array.getElem?_eq_some_iff.1 ho
        exact Array.all_eq_true.1 hd i hi2
      simp only at h1 ⊢
      by_cases hw : Region.wanted o (yielded ops a.tmps) = true
      · rw [if_pos hw] at h1 ⊢
        rcases h1 with h1 | ⟨_, h1⟩
        · exact oper_in hod (fun a w h => any_in hd hK fuel _ a w h) h1
        · exact absurd h1 (goes_no K)
      · rw [if_neg hw] at h1 ⊢
        exact ⟨fun _ _ => trivial, any_in hd hK fuel _ _ w h1⟩⟩
/-- A region of a round that draws its order, over all worlds in which nothing that was there has changed. -/
theorem round_region_cls {id r n : Nat} {P : Program} {Q : Exit → Act → World → Prop} {a : Act} {w : World} {l : List Oper} (hm : P.follows .mixedOrders = true) (hB : Region.lexB .any l.toArray = true) (hd : l.toArray.all noDefer = true)
    (h : wpQuiet P l.toArray (fun w' => ∃ i : Cls w, w' = i.at) (fun a' => ∀ w', (∃ i : Cls w, w' = i.at) → Q .normal a' w') l a) : (Code.region id l.toArray true).wpIn (Fence.wide.inRound r) n P Q a w := by
  simp only [Region.lexB, Bool.and_eq_true] at hB
  have hC : (fun w' => ∃ i : Cls w, w' = i.at) { w with drawn := w.drawn + 1 } := ⟨Cls.mk' (pw_below_drewN (Below.refl _ _) 1), rfl⟩
  refine wpIn_region_any hm (any_in hd (K := fun a' w' => Q .normal a' w') (fun _ _ h => h) _ _ _ _ (wpAny_of_quiet (C := fun w' => ∃ i : Cls w, w' = i.at) (Q := fun a' => ∀ w', (∃ i : Cls w, w' = i.at) → Q .normal a' w') (Q' := Goes fun a' w' => Q .normal a' w') (fun _ w' hw' h => h w' hw') _ _ _ _ hC ?_))
  have := wpAnyQ_lex (C := fun w' => ∃ i : Cls w, w' = i.at) (md := .any) hB.1 l 0 (Array.replicate l.toArray.size false) a (by simp) (by simpa using hB.2) h
  simpa using this
end Go.Proofs.YtfbkkcigkpffiaaDoor.St

namespace Go.Proofs.YtfbkkcigkpffiaaDoor.St
open Go Go.Lib Go.RowKit Go.ChangeMaps Go.Proofs.YtfbkkcigkpffiaaDoorW.PrintWords Go.Proofs.YtfbkkcigkpffiaaDoorW.PrintLast Go.Proofs.YtfbkkcigkpffiaaDoorW.PrintMore Go.Proofs.YtfbkkcigkpffiaaDoor.PStoreMany
set_option linter.unusedVariables false
set_option linter.unusedSimpArgs false
/-- What abides every step that leaves all that was there. -/
def Grows {β : Type} (J : β → World → Prop) : Prop := ∀ s A B, J s A → Below A.heap.size A B → J s B
/-- .. and a turn of a loop's record at or above b. -/
structure Abid {β : Type} (b : Nat) (J : β → World → Prop) : Prop where
  grows : Grows J
  turn : ∀ s (W : World) (l : Nat) (o o' : Loop), b ≤ l → W.heap[l]? = some (.loop o) → J s W → J s (W.putObj l (.loop o'))
/-- An object of book-keeping: a loop's record, a block for deferred calls. -/
def isBook : Obj → Bool
  | .loop _ => true
  | .deferred _ => true
  | _ => false
def KeepsBk (W W' : World) : Prop := ∀ (k : Nat) (o : Obj), W.heap[k]? = some o → isBook o = true → W'.heap[k]? = some o
theorem KeepsBk.refl (W : World) : KeepsBk W W := fun _ _ h _ => h
theorem KeepsBk.trans {A B C : World} (h : KeepsBk A B) (k : KeepsBk B C) : KeepsBk A C := fun i o hi ho => k i o (h i o hi ho) ho
theorem KeepsBk.of_below {A B : World} (h : Below A.heap.size A B) : KeepsBk A B := fun k o hk _ => (h.block k (Array.getElem?_eq_some_iff.1 hk).1).trans hk
/-- The contract of an iterator: at each yield `Yl` tells what lies where; a round that goes on keeps `Kp`. -/
def SeqB {α : Type} (P : Program) (g : Nat) (lb : Array Value) (encs : α → Array Value) (Yl : List α → α → World → Prop) (Kp : World → World → Prop) (S Sp : List α → Prop) (w : World) : Prop :=
  ∀ (l : Nat) (J Jx : List α → World → Prop) (W : World), Below w.heap.size w W → Grows J → Grows Jx →
    (∀ pre x W1, J pre W1 → Yl pre x W1 → ∀ m, YieldAt Fence.wide m P l (encs x) W1 fun e W' =>
      (e = .returned (.bool true) ∧ J (pre ++ [x]) W' ∧ Kp W1 W') ∨ (e = .returned (.bool false) ∧ Jx (pre ++ [x]) W')) →
    J [] W →
    Calls P g (#[.func (.yield l) #[] #[]] ++ lb) W fun e W' => (∃ v, e = .returned v) ∧ ((∃ xs, S xs ∧ J xs W') ∨ (∃ pre, Sp pre ∧ Jx pre W'))
/-- How a round's body may be left. -/
def Left {α : Type} (Kp : World → World → Prop) (I : List α → World → Prop) (Ix : Code → List α → World → Prop) (xs : List α) (W : World) : Exit → Act → World → Prop
  | .normal, _, W' => KeepsBk W W' ∧ Kp W W' ∧ I xs W'
  | .ret, _, W' => KeepsBk W W' ∧ Ix .ret xs W'
  | .exit id, _, W' => KeepsBk W W' ∧ Ix (.exit id) xs W'
  | .goto t, _, W' => KeepsBk W W' ∧ Ix (.goto t) xs W'
  | .panic _, _, _ => False
  | .outgrown, _, _ => False
section
variable {P : Program}
/-- The rounds, from the record on. -/
theorem rounds_core {α : Type} {gf : Nat} {lb : Array Value} {encs : α → Array Value} {Yl : List α → α → World → Prop} {Kp : World → World → Prop} {S Sp : List α → Prop} {w0 : World} {fn : FuncId} {tmps : Array Value} {ps : Array Tmp} {assign body : Code} {l B D : Nat} {W1 : World}
    (hseq : SeqB P gf lb encs Yl Kp S Sp w0) (hb : Below w0.heap.size w0 W1) (hB : B ≤ l)
    {rec : LoopState → Option Code → Loop} (hrec : rec = fun st pe => { state := st, pending := pe, fn, tmps, params := ps, assign, body, defers := D }) (hL : W1.heap[l]? = some (.loop (rec .ready none)))
    (hps : ∀ x, (encs x).size = ps.size) (hKt : ∀ {A B C : World}, Kp A B → Kp B C → Kp A C) (hKb : ∀ (W : World) (l : Nat) (o o' : Loop), B ≤ l → W.heap[l]? = some (.loop o) → Kp W (W.putObj l (.loop o')))
    {I : List α → World → Prop} {Ix : Code → List α → World → Prop} (hI : Abid B I) (hIx : ∀ c, Abid B (Ix c)) (h0 : I [] W1) {Ax : List α → α → Act → World → Prop} (hAx : ∀ pre x a', Abid B (fun (_ : Unit) W => Ax pre x a' W))
    (hassign : ∀ (l : Nat) (pre : List α) (x : α) (W : World) (K : Act → World → Prop), I pre W → Yl pre x W → (∀ a' W', KeepsBk W W' → Kp W W' → I pre W' → Ax pre x a' W' → K a' W') →
      ∀ n, assign.wpIn (Fence.wide.inRound l) n P (Exit.then K (fun _ _ _ => False)) { tmps := (ps.zip (encs x)).foldl (fun t (p, v) => t.setIfInBounds p v) tmps, defers := [] } W)
    (hbody : ∀ (l : Nat) (pre : List α) (x : α) (a' : Act) (W : World), B ≤ l → (∃ r, W.heap[l]? = some (.loop r)) → I pre W → Ax pre x a' W → ∀ n, body.wpIn (Fence.wide.inRound l) n P (Left Kp I Ix (pre ++ [x]) W) a' W) :
    Calls P gf (#[.func (.yield l) #[] #[]] ++ lb) W1 fun e W2 => (∃ v, e = .returned v) ∧
      ((∃ xs, S xs ∧ I xs W2 ∧ W2.heap[l]? = some (.loop (rec .ready none))) ∨ (∃ pre c, Sp pre ∧ Ix c pre W2 ∧ W2.heap[l]? = some (.loop (rec .done (some c))))) := by
  have keep : ∀ {A B : World} {o : Obj}, A.heap[l]? = some o → Below A.heap.size A B → B.heap[l]? = some o := fun h hb => (hb.block l (Array.getElem?_eq_some_iff.1 h).1).trans h
  refine (hseq l (fun pre W => I pre W ∧ W.heap[l]? = some (.loop (rec .ready none))) (fun pre W => ∃ c, Ix c pre W ∧ W.heap[l]? = some (.loop (rec .done (some c)))) W1 hb
    (fun s A B h hb => ⟨hI.grows s A B h.1 hb, keep h.2 hb⟩) (fun s A B ⟨c, h1, h2⟩ hb => ⟨c, (hIx c).grows s A B h1 hb, keep h2 hb⟩) ?_ ⟨h0, hL⟩).mono ?_
  · rintro pre x W ⟨hi, hl⟩ hy m
    have hyy := run_yield (P := P) (args := encs x) hl (by rw [hrec]; exact hps x)
    rw [hrec] at hyy
    refine ⟨fn, _, assign, body, hyy, roundIn_of_wpIn trivial (hassign l pre x W _ hi hy (fun a' Wa hka hkp hia hax => ?_) m)⟩
    have hla := hka l _ hl rfl
    have hlt := (Array.getElem?_eq_some_iff.1 hla).1
    refine ⟨_, run_beginRound hla (by rw [hrec]), ?_⟩
    have hl2 : (Wa.putObj l (.loop { rec .ready none with state := .busy })).heap[l]? = some (.loop { rec .ready none with state := .busy }) := World.putObj_heap_same hlt
    have hk2 : Kp Wa (Wa.putObj l (.loop { rec .ready none with state := .busy })) := hKb _ _ _ _ hB hla
    refine wpIn_mono (hbody l pre x a' _ hB ⟨_, hl2⟩ (hI.turn pre Wa l _ _ hB hla hia) ((hAx pre x a').turn () Wa l _ _ hB hla hax) m) ?_
    have fin : ∀ (jump : Option Code) (W3 : World), KeepsBk (Wa.putObj l (.loop { rec .ready none with state := .busy })) W3 →
        (Instr.endRound l jump).run P W3 = .ok (.bool jump.isNone) (W3.putObj l (.loop (rec (if jump.isNone then .ready else .done) jump))) ∧
        W3.heap[l]? = some (.loop { rec .ready none with state := .busy }) ∧
        (W3.putObj l (.loop (rec (if jump.isNone then .ready else .done) jump))).heap[l]? = some (.loop (rec (if jump.isNone then .ready else .done) jump)) := fun jump W3 hk3 => by
      have hl3 := hk3 l _ hl2 rfl
      have := run_endRound (P := P) jump hl3
      rw [hrec] at this ⊢
      exact ⟨this, by rw [hrec] at hl3; exact hl3, World.putObj_heap_same (Array.getElem?_eq_some_iff.1 hl3).1⟩
    rintro e a3 W3 hp
    cases e with
    | normal =>
      obtain ⟨hk3, hkp3, hi3⟩ := hp
      obtain ⟨hr, hl3, hl4⟩ := fin none W3 hk3
      exact ⟨_, _, hr, .inl ⟨rfl, ⟨hI.turn _ _ _ _ _ hB hl3 hi3, hl4⟩, hKt hkp (hKt (hKt hk2 hkp3) (hKb _ _ _ _ hB hl3))⟩⟩
    | ret =>
      obtain ⟨hk3, hi3⟩ := hp
      obtain ⟨hr, hl3, hl4⟩ := fin (some .ret) W3 hk3
      exact ⟨_, _, hr, .inr ⟨rfl, .ret, (hIx _).turn _ _ _ _ _ hB hl3 hi3, hl4⟩⟩
    | exit id =>
      obtain ⟨hk3, hi3⟩ := hp
      obtain ⟨hr, hl3, hl4⟩ := fin (some (.exit id)) W3 hk3
      exact ⟨_, _, hr, .inr ⟨rfl, .exit id, (hIx _).turn _ _ _ _ _ hB hl3 hi3, hl4⟩⟩
    | goto t =>
      obtain ⟨hk3, hi3⟩ := hp
      obtain ⟨hr, hl3, hl4⟩ := fin (some (.goto t)) W3 hk3
      exact ⟨_, _, hr, .inr ⟨rfl, .goto t, (hIx _).turn _ _ _ _ _ hB hl3 hi3, hl4⟩⟩
    | panic ch => exact hp.elim
    | outgrown => exact hp.elim
  · rintro e W2 ⟨hv, (⟨xs, hS, hi, hl⟩ | ⟨pre, hSp, c, hi, hl⟩)⟩
    · exact ⟨hv, .inl ⟨xs, hS, hi, hl⟩⟩
    · exact ⟨hv, .inr ⟨pre, c, hSp, hi, hl⟩⟩
/-- The statement, outside of a round. -/
theorem range_outer {α : Type} {g : Operand} {ps : Array Tmp} {assign body : Code} {Q : Exit → Act → World → Prop} {a : Act} {w : World} {n : Nat} {gf : Nat} {lb : Array Value} {encs : α → Array Value} {Yl : List α → α → World → Prop} {Kp : World → World → Prop} {S Sp : List α → Prop} {w0 : World}
    (hg : a.eval g = .func (.func gf) #[] lb) (eg : ∀ args w, (callFunc gf args).run P w = .ok (.enter gf args) w)
    (hseq : SeqB P gf lb encs Yl Kp S Sp w0) (hb : Below w0.heap.size w0 w) (hps : ∀ x, (encs x).size = ps.size)
    (hKt : ∀ {A B C : World}, Kp A B → Kp B C → Kp A C) (hKb : ∀ (W : World) (l : Nat) (o o' : Loop), w.heap.size ≤ l → W.heap[l]? = some (.loop o) → Kp W (W.putObj l (.loop o')))
    (I : List α → World → Prop) (Ix : Code → List α → World → Prop) (hI : Abid w.heap.size I) (hIx : ∀ c, Abid w.heap.size (Ix c)) (h0 : I [] w) (Ax : List α → α → Act → World → Prop) (hAx : ∀ pre x a', Abid w.heap.size (fun (_ : Unit) W => Ax pre x a' W))
    (hassign : ∀ (l : Nat) (pre : List α) (x : α) (W : World) (K : Act → World → Prop), I pre W → Yl pre x W → (∀ a' W', KeepsBk W W' → Kp W W' → I pre W' → Ax pre x a' W' → K a' W') →
      ∀ n, assign.wpIn (Fence.wide.inRound l) n P (Exit.then K (fun _ _ _ => False)) { tmps := (ps.zip (encs x)).foldl (fun t (p, v) => t.setIfInBounds p v) a.tmps, defers := [] } W)
    (hbody : ∀ (l : Nat) (pre : List α) (x : α) (a' : Act) (W : World), w.heap.size ≤ l → (∃ r, W.heap[l]? = some (.loop r)) → I pre W → Ax pre x a' W → ∀ n, body.wpIn (Fence.wide.inRound l) n P (Left Kp I Ix (pre ++ [x]) W) a' W)
    (hdone : ∀ (D : Nat) (xs : List α) (W : World), w.heap.size ≤ D → S xs → I xs W → W.heap[D]? = some (.deferred (some [])) → Q .normal { a with defers := { target := .collected D, args := #[] } :: a.defers } W)
    (hstop : ∀ (D : Nat) (c : Code) (pre : List α) (W : World), w.heap.size ≤ D → Sp pre → Ix c pre W → W.heap[D]? = some (.deferred (some [])) → c.wpIn Fence.wide n P Q { a with defers := { target := .collected D, args := #[] } :: a.defers } W) :
    (Code.rangeFunc g ps assign body).wpIn Fence.wide n P Q a w := by
  refine wpIn_rangeFunc fun fn hfn => ?_
  obtain ⟨rec, hrec⟩ : ∃ rec : LoopState → Option Code → Loop, rec = fun st pe => { state := st, pending := pe, fn, tmps := a.tmps, params := ps, assign, body, defers := w.heap.size } := ⟨_, rfl⟩
  obtain ⟨W1, hW1⟩ : ∃ W1, (w.alloc (.deferred (some []))).alloc (.loop (rec .ready none)) = W1 := ⟨_, rfl⟩
  have hL1 : W1.heap[w.heap.size + 1]? = some (.loop (rec .ready none)) := by
    rw [← hW1]; have := World.alloc_heap_new (w.alloc (.deferred (some []))) (.loop (rec .ready none)); rwa [World.size_alloc] at this
  have hK1 : W1.heap[w.heap.size]? = some (.deferred (some [])) := by
    rw [← hW1]; exact (Below.heap_alloc _ _ _ (by simp)).trans (World.alloc_heap_new w _)
  have hbw : Below w.heap.size w W1 := by
    rw [← hW1]; exact ((Below.refl _ w).alloc (Nat.le_refl _) _).alloc (by simp) _
  have hD : ∀ {J : List α → World → Prop}, Abid w.heap.size J → Abid (w.heap.size + 1) (fun s W => J s W ∧ W.heap[w.heap.size]? = some (.deferred (some []))) := fun hJ =>
    ⟨fun s A B h hb => ⟨hJ.grows s A B h.1 hb, (hb.block _ (Array.getElem?_eq_some_iff.1 h.2).1).trans h.2⟩, fun s W l o o' hl ho h => ⟨hJ.turn s W l o o' (by omega) ho h.1, (World.putObj_heap_other (by omega)).trans h.2⟩⟩
  refine ⟨w.heap.size + 1, [{ target := .collected w.heap.size, args := #[] }], W1, { target := .fn (.func gf) lb, args := #[.func (.yield (w.heap.size + 1)) #[] #[]] }, W1, gf,
    #[.func (.yield (w.heap.size + 1)) #[] #[]] ++ lb, W1, ?_, ?_, ?_, ?_, fun hd => by simp [Fence.wide] at hd, ?_⟩
  · rw [← hW1, hrec]; exact run_enterLoop_outer _ _ _ _ _
  · simp only [resolve, hg]
    simp [go_sem]
  · intro f' hf'; trivial
  · simp [invoke, go_sem, eg]
  · refine callsIn_wide.2 ?_
    refine (rounds_core (B := w.heap.size + 1) hseq (hb.trans (hbw.mono hb.size)) (Nat.le_refl _) hrec hL1 hps (fun h k => hKt h k) (fun W l o o' hl ho => hKb W l o o' (by omega) ho)
      (I := fun s W => I s W ∧ W.heap[w.heap.size]? = some (.deferred (some []))) (Ix := fun c s W => Ix c s W ∧ W.heap[w.heap.size]? = some (.deferred (some []))) (hD hI) (fun c => hD (hIx c)) ⟨hI.grows _ _ _ h0 hbw, hK1⟩ (Ax := Ax)
      (fun pre x a' => ⟨(hAx pre x a').grows, fun s W l o o' hl ho h => (hAx pre x a').turn s W l o o' (by omega) ho h⟩)
      (fun l pre x W K hi hy hK n => hassign l pre x W K hi.1 hy (fun a' W' hk hkp hi' hax => hK a' W' hk hkp ⟨hi', hk _ _ hi.2 rfl⟩ hax) n)
      (fun l pre x a' W hl hr hi hax n => wpIn_mono (hbody l pre x a' W (by omega) hr hi.1 hax n) (fun e a3 W3 hp => by
        cases e with
        | normal => exact ⟨hp.1, hp.2.1, hp.2.2, hp.1 _ _ hi.2 rfl⟩
        | ret => exact ⟨hp.1, hp.2, hp.1 _ _ hi.2 rfl⟩
        | exit id => exact ⟨hp.1, hp.2, hp.1 _ _ hi.2 rfl⟩
        | goto t => exact ⟨hp.1, hp.2, hp.1 _ _ hi.2 rfl⟩
        | panic ch => exact hp.elim
        | outgrown => exact hp.elim))).mono ?_
    rintro e W2 ⟨⟨v, rfl⟩, (⟨xs, hS, ⟨hi, hk⟩, hl⟩ | ⟨pre, c, hSp, ⟨hi, hk⟩, hl⟩)⟩
    · exact ⟨none, _, by have := run_endLoop (P := P) hl (by rw [hrec]; simp); rw [hrec] at this; exact this, hdone _ xs _ (Nat.le_refl _) hS (hI.turn _ _ _ _ _ (by omega) hl hi) ((World.putObj_heap_other (by omega)).trans hk)⟩
    · exact ⟨some c, _, by have := run_endLoop (P := P) hl (by rw [hrec]; simp); rw [hrec] at this; exact this, hstop _ c pre _ (Nat.le_refl _) hSp ((hIx c).turn _ _ _ _ _ (by omega) hl hi) ((World.putObj_heap_other (by omega)).trans hk)⟩
/-- The statement, within a round of loop l₀. -/
theorem range_inner {α : Type} {g : Operand} {ps : Array Tmp} {assign body : Code} {Q : Exit → Act → World → Prop} {a : Act} {w : World} {n l₀ : Nat} {r₀ : Loop} (hl₀ : w.heap[l₀]? = some (.loop r₀)) {gf : Nat} {lb : Array Value} {encs : α → Array Value} {Yl : List α → α → World → Prop} {Kp : World → World → Prop} {S Sp : List α → Prop} {w0 : World}
    (hg : a.eval g = .func (.func gf) #[] lb) (eg : ∀ args w, (callFunc gf args).run P w = .ok (.enter gf args) w)
    (hseq : SeqB P gf lb encs Yl Kp S Sp w0) (hb : Below w0.heap.size w0 w) (hps : ∀ x, (encs x).size = ps.size)
    (hKt : ∀ {A B C : World}, Kp A B → Kp B C → Kp A C) (hKb : ∀ (W : World) (l : Nat) (o o' : Loop), w.heap.size ≤ l → W.heap[l]? = some (.loop o) → Kp W (W.putObj l (.loop o')))
    (I : List α → World → Prop) (Ix : Code → List α → World → Prop) (hI : Abid w.heap.size I) (hIx : ∀ c, Abid w.heap.size (Ix c)) (h0 : I [] w) (Ax : List α → α → Act → World → Prop) (hAx : ∀ pre x a', Abid w.heap.size (fun (_ : Unit) W => Ax pre x a' W))
    (hassign : ∀ (l : Nat) (pre : List α) (x : α) (W : World) (K : Act → World → Prop), I pre W → Yl pre x W → (∀ a' W', KeepsBk W W' → Kp W W' → I pre W' → Ax pre x a' W' → K a' W') →
      ∀ n, assign.wpIn (Fence.wide.inRound l) n P (Exit.then K (fun _ _ _ => False)) { tmps := (ps.zip (encs x)).foldl (fun t (p, v) => t.setIfInBounds p v) a.tmps, defers := [] } W)
    (hbody : ∀ (l : Nat) (pre : List α) (x : α) (a' : Act) (W : World), w.heap.size ≤ l → (∃ r, W.heap[l]? = some (.loop r)) → I pre W → Ax pre x a' W → ∀ n, body.wpIn (Fence.wide.inRound l) n P (Left Kp I Ix (pre ++ [x]) W) a' W)
    (hdone : ∀ (xs : List α) (W : World), S xs → I xs W → Q .normal a W)
    (hstop : ∀ (c : Code) (pre : List α) (W : World), Sp pre → Ix c pre W → c.wpIn (Fence.wide.inRound l₀) n P Q a W) :
    (Code.rangeFunc g ps assign body).wpIn (Fence.wide.inRound l₀) n P Q a w := by
  refine wpIn_rangeFunc fun fn hfn => ?_
  obtain ⟨rec, hrec⟩ : ∃ rec : LoopState → Option Code → Loop, rec = fun st pe => { state := st, pending := pe, fn, tmps := a.tmps, params := ps, assign, body, defers := r₀.defers } := ⟨_, rfl⟩
  obtain ⟨W1, hW1⟩ : ∃ W1, w.alloc (.loop (rec .ready none)) = W1 := ⟨_, rfl⟩
  have hL1 : W1.heap[w.heap.size]? = some (.loop (rec .ready none)) := by rw [← hW1]; exact World.alloc_heap_new w _
  have hbw : Below w.heap.size w W1 := by rw [← hW1]; exact (Below.refl _ w).alloc (Nat.le_refl _) _
  refine ⟨w.heap.size, [], W1, { target := .fn (.func gf) lb, args := #[.func (.yield w.heap.size) #[] #[]] }, W1, gf,
    #[.func (.yield w.heap.size) #[] #[]] ++ lb, W1, ?_, ?_, ?_, ?_, fun hd => by simp [Fence.wide] at hd, ?_⟩
  · rw [← hW1, hrec]; exact run_enterLoop_inner hl₀ _ _ _ _ _
  · simp only [resolve, hg]
    simp [go_sem]
  · intro f' hf'; trivial
  · simp [invoke, go_sem, eg]
  · refine calls_in ?_
    refine (rounds_core (B := w.heap.size) hseq (hb.trans (hbw.mono hb.size)) (Nat.le_refl _) hrec hL1 hps (fun h k => hKt h k) (fun W l o o' hl ho => hKb W l o o' hl ho)
      (I := I) (Ix := Ix) hI hIx (hI.grows _ _ _ h0 hbw) (Ax := Ax) hAx hassign hbody).mono ?_
    rintro e W2 ⟨⟨v, rfl⟩, (⟨xs, hS, hi, hl⟩ | ⟨pre, c, hSp, hi, hl⟩)⟩
    · exact ⟨none, _, by have := run_endLoop (P := P) hl (by rw [hrec]; simp); rw [hrec] at this; exact this, hdone xs _ hS (hI.turn _ _ _ _ _ (Nat.le_refl _) hl hi)⟩
    · exact ⟨some c, _, by have := run_endLoop (P := P) hl (by rw [hrec]; simp); rw [hrec] at this; exact this, hstop c pre _ hSp ((hIx c).turn _ _ _ _ _ (Nat.le_refl _) hl hi)⟩
end
end Go.Proofs.YtfbkkcigkpffiaaDoor.St

namespace Go.Proofs.YtfbkkcigkpffiaaDoor.St
open Go Go.Lib Go.RowKit Go.ChangeMaps Go.Proofs.YtfbkkcigkpffiaaDoorW.PrintWords Go.Proofs.YtfbkkcigkpffiaaDoorW.PrintLast Go.Proofs.YtfbkkcigkpffiaaDoorW.PrintMore Go.Proofs.YtfbkkcigkpffiaaDoor.PStoreMany
set_option linter.unusedVariables false
set_option linter.unusedSimpArgs false
/-- A map, or cells of ids. -/
def prot : Obj → Bool
  | .map _ _ => true
  | .cells _ t _ => t == 33
  | _ => false
/-- What a round that goes on keeps: all that lay below n but what is the caller's own; maps and rows of ids but the caller's own. -/
structure KpS (n : Nat) (Mine : World → Nat → Prop) (A B : World) : Prop where
  low : n ≤ A.heap.size
  size : A.heap.size ≤ B.heap.size
  old : ∀ k, k < n → ¬ Mine A k → B.heap[k]? = A.heap[k]?
  new : ∀ (k : Nat) (o : Obj), A.heap[k]? = some o → prot o = true → ¬ Mine A k → B.heap[k]? = some o
  mine : ∀ k, Mine B k → Mine A k ∨ A.heap.size ≤ k
theorem KpS.trans {n : Nat} {Mine : World → Nat → Prop} {A B C : World} (h : KpS n Mine A B) (k : KpS n Mine B C) : KpS n Mine A C where
  low := h.low
  size := Nat.le_trans h.size k.size
  old := fun i hi hm => (k.old i hi (fun hb => (h.mine i hb).elim hm (fun hs => by have := h.low; omega))).trans (h.old i hi hm)
  new := fun i o hi ho hm => k.new i o (h.new i o hi ho hm) ho (fun hb => (h.mine i hb).elim hm (fun hs => by have := (Array.getElem?_eq_some_iff.1 hi).1; omega))
  mine := fun i hi => (k.mine i hi).elim (fun hb => h.mine i hb) (fun hs => .inr (Nat.le_trans h.size hs))
theorem KpS.turn {n : Nat} {Mine : World → Nat → Prop} (hM : ∀ (W : World) (l : Nat) (o o' : Loop) k, W.heap[l]? = some (.loop o) → Mine (W.putObj l (.loop o')) k → Mine W k) (W : World) (l : Nat) (o o' : Loop) (hl : n ≤ l) (ho : W.heap[l]? = some (.loop o)) : KpS n Mine W (W.putObj l (.loop o')) where
  low := by have := (Array.getElem?_eq_some_iff.1 ho).1; omega
  size := by simp
  old := fun k hk _ => World.putObj_heap_other (by omega)
  new := fun k q hk hq _ => by
    by_cases e : k = l
    · subst e
      rw [ho] at hk
      cases hk
      cases hq
    · exact (World.putObj_heap_other e).trans hk
  mine := fun k hk => .inl (hM W l o o' k ho hk)
set_option maxRecDepth 100000 in
set_option maxHeartbeats 4000000 in
/-- bytes.Clone: a row of one's own. -/
theorem clone_own (b : List Int) (A : Option Addr) (c : Nat) (w : World) (hC : Kd.C kB w A b.length b) (hl : b.length ≤ 1000000000) :
    Calls Tryd.prog 35 #[.slice A b.length c] w fun e w' => ∃ v, e = .returned v ∧ Kd.R kB 5 w' w.heap.size (fun k => w.heap.size ≤ k) v b ∧ Below w.heap.size w w' := by
  cases A with
  | none =>
    have hb0 : b = [] := by
      cases b with
      | nil => rfl
      | cons x r =>
        obtain ⟨ad, h, _⟩ := hC.2.2 (by simp)
        cases h
    subst hb0
    have hq := nil_slice 0 c
    clear hC
    go_enter Tryd.func35, Tryd.ntmps35
    go_wp2_with fail
    go_ret
    exact ⟨_, rfl, Kd.R_nil _ _ _ _ _, Below.refl _ _⟩
  | some ad =>
    have HC := Lib.hid hC
    have HR0 := Lib.hid (R_lit0 w)
    have HB0 := Lib.hid (show Below w.heap.size w (w.alloc (.cells #[] 5)) from below_alloc (Below.refl _ _) _)
    obtain ⟨N, hN⟩ : ∃ N, b.length = N := ⟨_, rfl⟩
    have HN := Lib.hid hN
    rw [hN] at hl ⊢
    have hq := some_slice ad N c
    clear hC hN
    go_enter Tryd.func35, Tryd.ntmps35
    go_wp2_with (at_builtin; refine Kd.R_append_rows kB (Rr := fun x cs => cs = [Value.int .u8 x]) (w0 := w) (W := (w.alloc (.cells #[] 5))) w.heap.size rfl (.tmp 5) (.tmp 6) 30 5 (.int .u8 0) 1 rfl Tryd.underlying30 info5 rfl (by decide) (by decide) _ [] b (some ad) N c (fun k => w.heap.size ≤ k) (fun _ => False) rfl rfl HR0.out (HN.out ▸ (Kd.C_below HC.out HB0.out)) (fun _ _ h => h) (fun _ hk => hk.elim) (fun k hk => Nat.le_trans HB0.out.size hk) HB0.out HB0.out.size (by simp; omega) ?_; intro v1 w1 hr1 hb1 hg1 hat1; have HR1 := Lib.hid hr1; have HB1 := Lib.hid hb1; clear hr1 hb1 hg1 hat1)
    rw [List.nil_append] at HR1
    go_ret
    exact ⟨_, rfl, HR1.out, HB1.out⟩
/-! ### steps of a region that draws -/
section
variable {P : Program} {ops : Array Oper} {o : Oper} {a : Act} {w w' : World} {K : Act → World → Prop} {Q : Exit → Act → World → Prop} {n : Nat}
theorem step_val (hg : o.guard = none) (ho : noDefer o = true) {v : Value} (h : (execOp a.eval o).run P w = .ok (.value v) w') (hK : K (a.put o.dst v) w') :
    if Region.wanted o (yielded ops a.tmps) = true then o.wpIn Fence.wide n P a w K Q else (∀ f, o.about P w a.eval = some f → Fence.wide.fn f) ∧ K (a.put o.dst undef) w := by
  rw [if_pos (by simp [Region.wanted, hg])]
  refine ⟨fun _ _ => trivial, ?_⟩
  rw [Oper.semAt_eq _ _ _ (noDefer_ne ho), h]
  exact hK
theorem step_enter (hg : o.guard = none) (ho : noDefer o = true) {f : FuncId} {args : Array Value} (h : (execOp a.eval o).run P w = .ok (.enter f args) w') {R : Value → World → Prop} (hc : Calls P f args w' fun e w'' => ∃ v, e = .returned v ∧ R v w'') (hK : ∀ v w'', R v w'' → K (a.put o.dst v) w'') :
    if Region.wanted o (yielded ops a.tmps) = true then o.wpIn Fence.wide n P a w K Q else (∀ f, o.about P w a.eval = some f → Fence.wide.fn f) ∧ K (a.put o.dst undef) w := by
  rw [if_pos (by simp [Region.wanted, hg])]
  refine ⟨fun _ _ => trivial, ?_⟩
  rw [Oper.semAt_eq _ _ _ (noDefer_ne ho), h]
  refine ⟨fun hd => by simp [Fence.wide] at hd, callsIn_wide.2 (hc.mono ?_)⟩
  rintro e w'' ⟨v, rfl, hr⟩
  exact hK v w'' hr
theorem step_round (hg : o.guard = none) (ho : noDefer o = true) {l fn : Nat} {tmps : Array Value} {assign body : Code} (h : (execOp a.eval o).run P w = .ok (.round l fn tmps assign body) w') {R : Value → World → Prop} (hr : RoundIn Fence.wide (n - 1) P l fn tmps assign body w' fun e w'' => ∃ v, e = .returned v ∧ R v w'') (hK : ∀ v w'', R v w'' → K (a.put o.dst v) w'') :
    if Region.wanted o (yielded ops a.tmps) = true then o.wpIn Fence.wide n P a w K Q else (∀ f, o.about P w a.eval = some f → Fence.wide.fn f) ∧ K (a.put o.dst undef) w := by
  rw [if_pos (by simp [Region.wanted, hg])]
  refine ⟨fun _ _ => trivial, ?_⟩
  rw [Oper.semAt_eq _ _ _ (noDefer_ne ho), h]
  refine ⟨fun hd => by simp [Fence.wide] at hd, hr.mono ?_⟩
  rintro e w'' ⟨v, rfl, hr⟩
  exact hK v w'' hr
theorem exec_ld {ty : TypeId} {x : Operand} (ho : o.op = .load ty x) {ad : Addr} (hx : a.eval x = .pointer (some ad)) {v : Value} (hl : (Instr.loadAt ty (.pointer (some ad))).run P w = .ok v w) : (execOp a.eval o).run P w = .ok (.value v) w := by
  unfold execOp
  simp only [ho, hx, Sem.run_bind, hl, Result.andThen_ok, Sem.run_pure]
theorem exec_look {ty : TypeId} {m k : Operand} {ok : Bool} (ho : o.op = .lookup ty m k ok) {vm vk v : Value} (hm : a.eval m = vm) (hk : a.eval k = vk) (hl : (Instr.lookup ty vm vk ok).run P w = .ok v w) : (execOp a.eval o).run P w = .ok (.value v) w := by
  unfold execOp
  simp only [ho, hm, hk, Sem.run_bind, hl, Result.andThen_ok, Sem.run_pure]
end
end Go.Proofs.YtfbkkcigkpffiaaDoor.St
