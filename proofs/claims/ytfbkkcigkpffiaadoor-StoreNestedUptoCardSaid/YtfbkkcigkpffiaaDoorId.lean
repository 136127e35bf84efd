/- The region of StoreNested's body that reckons how far the inner range goes. -/
import Derived.Test.YtfbkkcigkpffiaaDoorIc
import Derived.OrdersHeld
import Derived.Deep.RegionHeld
namespace Go.Proofs.YtfbkkcigkpffiaaDoor.St
open Go Go.Lib Go.RowKit Go.ChangeMaps Go.Proofs.YtfbkkcigkpffiaaDoorW.PrintWords Go.Proofs.YtfbkkcigkpffiaaDoorW.PrintLast Go.Proofs.YtfbkkcigkpffiaaDoorW.PrintMore Go.Proofs.YtfbkkcigkpffiaaDoor.PStoreMany
set_option linter.unusedVariables false
set_option linter.unusedSimpArgs false
/-- The same heap. -/
structure Eqv (w W : World) : Prop where
  os : W.os = w.os
  tape : W.tape = w.tape
  output : W.output = w.output
  heap : W.heap = w.heap
theorem Eqv.drawn {w W W' : World} (h : Eqv w W) (hd : Drawn0 W W') : Eqv w W' := by
  obtain ⟨⟨n, rfl⟩⟩ := hd
  exact ⟨h.os, h.tape, h.output, h.heap⟩
theorem Eqv.cell {w W : World} (h : Eqv w W) (p : Addr) : W.cell? p = w.cell? p := by unfold World.cell?; rw [h.heap]
theorem Eqv.alloc {w W : World} (h : Eqv w W) (o : Obj) : Eqv (w.alloc o) (W.alloc o) := ⟨h.os, h.tape, h.output, by show W.heap.push o = w.heap.push o; rw [h.heap]⟩
theorem Eqv.size {w W : World} (h : Eqv w W) : W.heap.size = w.heap.size := by rw [h.heap]
theorem below_of_eqv {B : Nat} {w A W : World} (h : Below B w A) (e : Eqv A W) : Below B w W := ⟨e.os.trans h.os, e.tape.trans h.tape, e.output.trans h.output, by rw [e.heap]; exact h.size, fun j hj => by rw [e.heap]; exact h.block j hj⟩
section
variable {P : Program} {ops : Array Oper} {o : Oper} {a : Act} {w w' : World} {K : Act → World → Prop} {Q : Exit → Act → World → Prop}
theorem stepH_val (hg : o.guard = none) {v : Value} (h : (execOp a.eval o).run P w = .ok (.value v) w') (hK : K (a.put o.dst v) w') :
    if Region.wanted o (yielded ops a.tmps) = true then o.wp P a w K Q else K (a.put o.dst undef) w := by
  rw [if_pos (by simp [Region.wanted, hg])]
  unfold Oper.wp
  rw [h]
  exact hK
theorem stepH_skip (hg : o.guard = none) (h : (execOp a.eval o).run P w = .ok .skip w') (hK : K (a.put o.dst undef) w') :
    if Region.wanted o (yielded ops a.tmps) = true then o.wp P a w K Q else K (a.put o.dst undef) w := by
  rw [if_pos (by simp [Region.wanted, hg])]
  unfold Oper.wp
  rw [h]
  exact hK
theorem stepH_enter (hg : o.guard = none) {f : FuncId} {args : Array Value} (h : (execOp a.eval o).run P w = .ok (.enter f args) w') {v : Value} {R : World → Prop} (hc : Calls P f args w' fun e w'' => e = .returned v ∧ R w'') (hK : ∀ w'', R w'' → K (a.put o.dst v) w'') :
    if Region.wanted o (yielded ops a.tmps) = true then o.wp P a w K Q else K (a.put o.dst undef) w := by
  rw [if_pos (by simp [Region.wanted, hg])]
  unfold Oper.wp
  rw [h]
  refine Calls.mono hc ?_
  rintro e w'' ⟨rfl, hr⟩
  exact hK w'' hr
end
set_option maxRecDepth 100000 in
set_option maxHeartbeats 4000000 in
theorem region_most {Q : Exit → Act → World → Prop} (rr nn b1 bi bg_ : Nat) (NN : Int) (Ai Ag : Option Addr) (n cap q cg : Nat) (m1 m2 : Int) (u0 u2 u3 u4 u5 u6 u9 u10 u11 u12 u13 u14 u15 u16 u17 u18 u19 u20 u21 u22 u23 u24 u25 u26 u27 u28 u29 u30 u31 u32 u33 u34 u35 u36 u37 u38 u39 u40 u41 u42 u43 u44 u45 u46 u47 u48 u49 u50 u51 u52 u53 u54 u55 u56 u57 u58 u59 u60 u61 u62 u63 u64 u65 u66 u67 u68 u69 u70 u71 u72 u73 u74 u75 u76 u77 u78 u79 u80 u81 u82 u83 u84 u85 u86 u87 u88 u89 u90 u91 u92 u93 u94 u95 u96 : Value) (w : World)
    (h1 : w.cell? ⟨b1, 2, none⟩ = some (.int .i64 NN)) (h2 : w.cell? ⟨bi, 0, none⟩ = some (.slice Ai n cap)) (h3 : w.cell? ⟨bg_, 0, none⟩ = some (.slice Ag q cg)) (hn : n ≤ 80) (hq : q ≤ 80) (hm : 0 ≤ m1 ∧ m1 ≤ 100)
    (hc1 : ∀ W, Calls Tryd.prog 11 #[.int .i64 NN, .int .i64 ((n : Int) + 1)] W fun e w' => e = .returned (.int .i64 m1) ∧ Drawn0 W w')
    (hc2 : ∀ W, Calls Tryd.prog 11 #[.int .i64 (m1 + (q : Int)), .int .i64 ((n : Int) + 1)] W fun e w' => e = .returned (.int .i64 m2) ∧ Drawn0 W w')
    (hQ : ∀ w'', Blk w'' w.heap.size 3 [.int .i64 m2] → Below w.heap.size w w'' → Q .normal { tmps := #[u0, .pointer (some ⟨b1, 0, none⟩), u2, u3, u4, u5, u6, .pointer (some ⟨bi, 0, none⟩), .pointer (some ⟨bg_, 0, none⟩), u9, .pointer (some ⟨w.heap.size, 0, none⟩), u11, u12, u13, u14, u15, u16, u17, u18, u19, u20, u21, u22, u23, u24, u25, u26, u27, u28, u29, u30, u31, u32, u33, u34, u35, u36, u37, .pointer (some ⟨b1, 2, none⟩), .int .i64 NN, .slice Ai n cap, .int .i64 n, .int .i64 ((n : Int) + 1), .int .i64 m1, .slice Ag q cg, .int .i64 q, .int .i64 (m1 + (q : Int)), .slice Ai n cap, .int .i64 n, .int .i64 ((n : Int) + 1), .int .i64 m2, u51, u52, u53, u54, u55, u56, u57, u58, u59, u60, u61, u62, u63, u64, u65, u66, u67, u68, u69, u70, u71, u72, u73, u74, u75, u76, u77, u78, u79, u80, u81, u82, u83, u84, u85, u86, u87, u88, u89, u90, u91, u92, u93, u94, u95, u96], defers := [] } w'') :
    (Code.region 12 #[{ dst := some 38, op := Op.fieldAddr 53 (Operand.tmp 1) 2, type := 0, pos := "outright.go:255", after := #[], guard := none }, { dst := some 39, op := Op.load 3 (Operand.tmp 38), type := 3, pos := "outright.go:255", after := #[{ on := 0, ground := Ground.data }], guard := none }, { dst := some 40, op := Op.load 44 (Operand.tmp 7), type := 44, pos := "outright.go:255", after := #[], guard := none }, { dst := some 41, op := Op.call { callee := Callee.builtin Builtin.len, args := #[Operand.tmp 40], argTypes := #[44] }, type := 3, pos := "outright.go:255", after := #[{ on := 2, ground := Ground.data }], guard := none }, { dst := some 42, op := Op.binOp BinOp.add 3 (Operand.tmp 41) (Operand.const (Value.int IntKind.i64 1)) 3, type := 3, pos := "outright.go:255", after := #[{ on := 3, ground := Ground.data }], guard := none }, { dst := some 43, op := Op.call { callee := Callee.value (Operand.func 11), args := #[Operand.tmp 39, Operand.tmp 42], argTypes := #[3, 3] }, type := 3, pos := "outright.go:255", after := #[{ on := 1, ground := Ground.data }, { on := 4, ground := Ground.data }], guard := none }, { dst := some 44, op := Op.load 44 (Operand.tmp 8), type := 44, pos := "outright.go:255", after := #[], guard := none }, { dst := some 45, op := Op.call { callee := Callee.builtin Builtin.len, args := #[Operand.tmp 44], argTypes := #[44] }, type := 3, pos := "outright.go:255", after := #[{ on := 6, ground := Ground.data }], guard := none }, { dst := some 46, op := Op.binOp BinOp.add 3 (Operand.tmp 43) (Operand.tmp 45) 3, type := 3, pos := "outright.go:255", after := #[{ on := 5, ground := Ground.data }, { on := 7, ground := Ground.data }], guard := none }, { dst := some 47, op := Op.load 44 (Operand.tmp 7), type := 44, pos := "outright.go:255", after := #[], guard := none }, { dst := some 48, op := Op.call { callee := Callee.builtin Builtin.len, args := #[Operand.tmp 47], argTypes := #[44] }, type := 3, pos := "outright.go:255", after := #[{ on := 9, ground := Ground.data }], guard := none }, { dst := some 49, op := Op.binOp BinOp.add 3 (Operand.tmp 48) (Operand.const (Value.int IntKind.i64 1)) 3, type := 3, pos := "outright.go:255", after := #[{ on := 10, ground := Ground.data }], guard := none }, { dst := some 50, op := Op.call { callee := Callee.value (Operand.func 11), args := #[Operand.tmp 46, Operand.tmp 49], argTypes := #[3, 3] }, type := 3, pos := "outright.go:255", after := #[{ on := 8, ground := Ground.data }, { on := 11, ground := Ground.data }, { on := 5, ground := Ground.chain }], guard := none }, { dst := some 10, op := Op.alloc 3, type := 0, pos := "outright.go:255", after := #[], guard := none }, { dst := none, op := Op.store 3 (Operand.tmp 10) (Operand.tmp 50), type := 0, pos := "outright.go:255", after := #[{ on := 13, ground := Ground.data }, { on := 12, ground := Ground.data }, { on := 12, ground := Ground.chain }, { on := 0, ground := Ground.phase }, { on := 1, ground := Ground.phase }, { on := 2, ground := Ground.phase }, { on := 3, ground := Ground.phase }, { on := 4, ground := Ground.phase }, { on := 5, ground := Ground.phase }, { on := 6, ground := Ground.phase }, { on := 7, ground := Ground.phase }, { on := 8, ground := Ground.phase }, { on := 9, ground := Ground.phase }, { on := 10, ground := Ground.phase }, { on := 11, ground := Ground.phase }, { on := 12, ground := Ground.phase }, { on := 13, ground := Ground.phase }], guard := none }] true).wpIn (Fence.wide.inRound rr) nn Tryd.prog Q { tmps := #[u0, .pointer (some ⟨b1, 0, none⟩), u2, u3, u4, u5, u6, .pointer (some ⟨bi, 0, none⟩), .pointer (some ⟨bg_, 0, none⟩), u9, u10, u11, u12, u13, u14, u15, u16, u17, u18, u19, u20, u21, u22, u23, u24, u25, u26, u27, u28, u29, u30, u31, u32, u33, u34, u35, u36, u37, u38, u39, u40, u41, u42, u43, u44, u45, u46, u47, u48, u49, u50, u51, u52, u53, u54, u55, u56, u57, u58, u59, u60, u61, u62, u63, u64, u65, u66, u67, u68, u69, u70, u71, u72, u73, u74, u75, u76, u77, u78, u79, u80, u81, u82, u83, u84, u85, u86, u87, u88, u89, u90, u91, u92, u93, u94, u95, u96], defers := [] } w := by
  have e11 : ∀ args w, (callFunc 11 args).run Tryd.prog w = .ok (.enter 11 args) w := enters_of Tryd.func11 (by kernel_rfl) rfl
  refine wpIn_region_any (by kernel_rfl) (any_in (by kernel_rfl) (K := fun a w => Q .normal a w) (fun _ _ h => h) _ _ _ _ (wpAny_of_held (S := fun W => W.cell? ⟨b1, 2, none⟩ = some (.int .i64 NN) ∧ W.cell? ⟨bi, 0, none⟩ = some (.slice Ai n cap) ∧ W.cell? ⟨bg_, 0, none⟩ = some (.slice Ag q cg)) _ _ _ _ ?_))
  change wpAnyH _ _ _ _ _ _ _ _ (World.drew w)
  have e0 : Eqv w w.drew := ⟨rfl, rfl, rfl, rfl⟩
  obtain ⟨z, hz⟩ : ∃ z : Obj, Obj.cells #[Value.int .i64 0] 3 = z := ⟨_, rfl⟩
  have S0 : ∀ W, Eqv w W → W.cell? ⟨b1, 2, none⟩ = some (.int .i64 NN) ∧ W.cell? ⟨bi, 0, none⟩ = some (.slice Ai n cap) ∧ W.cell? ⟨bg_, 0, none⟩ = some (.slice Ag q cg) := fun W h => ⟨(h.cell _).trans h1, (h.cell _).trans h2, (h.cell _).trans h3⟩
  have S1 : ∀ W, Eqv (w.alloc z) W → W.cell? ⟨b1, 2, none⟩ = some (.int .i64 NN) ∧ W.cell? ⟨bi, 0, none⟩ = some (.slice Ai n cap) ∧ W.cell? ⟨bg_, 0, none⟩ = some (.slice Ag q cg) := fun W h => by
    have hb := below_alloc (Below.refl w.heap.size w) z
    exact ⟨(h.cell _).trans (pw_cell_below hb h1), (h.cell _).trans (pw_cell_below hb h2), (h.cell _).trans (pw_cell_below hb h3)⟩
  obtain ⟨W, hW⟩ : ∃ W, w.drew = W := ⟨_, rfl⟩
  rw [hW] at e0 ⊢
  clear hW
  have w1 : IntKind.i64.wrap ((n : Int) + 1) = (n : Int) + 1 := IntWalk.i64_in _ (by omega)
  have w2 : IntKind.i64.wrap (m1 + (q : Int)) = m1 + (q : Int) := IntWalk.i64_in _ (by omega)
  refine wpAnyH_take (i := 0) (v := .pointer (some ⟨b1, 2, none⟩)) (oi := { dst := some 38, op := Op.fieldAddr 53 (Operand.tmp 1) 2, type := 0, pos := "outright.go:255", after := #[], guard := none }) rfl (by kernel_rfl) (by kernel_rfl) (by kernel_rfl) (fun _ _ _ h => h) (Or.inl ⟨by rfl, fun W hS => by obtain ⟨s1, s2, s3⟩ := hS; go_simp⟩) (S0 _ e0) ?_
  simp only [Act.put, List.setIfInBounds_toArray, List.set_cons_zero, List.set_cons_succ]
  refine wpAnyH_take (i := 1) (v := .int .i64 NN) (oi := { dst := some 39, op := Op.load 3 (Operand.tmp 38), type := 3, pos := "outright.go:255", after := #[{ on := 0, ground := Ground.data }], guard := none }) rfl (by kernel_rfl) (by kernel_rfl) (by kernel_rfl) (fun _ _ _ h => h) (Or.inl ⟨by rfl, fun W hS => by obtain ⟨s1, s2, s3⟩ := hS; go_simp⟩) (S0 _ e0) ?_
  simp only [Act.put, List.setIfInBounds_toArray, List.set_cons_zero, List.set_cons_succ]
  refine wpAnyH_take (i := 2) (v := .slice Ai n cap) (oi := { dst := some 40, op := Op.load 44 (Operand.tmp 7), type := 44, pos := "outright.go:255", after := #[], guard := none }) rfl (by kernel_rfl) (by kernel_rfl) (by kernel_rfl) (fun _ _ _ h => h) (Or.inl ⟨by rfl, fun W hS => by obtain ⟨s1, s2, s3⟩ := hS; go_simp⟩) (S0 _ e0) ?_
  simp only [Act.put, List.setIfInBounds_toArray, List.set_cons_zero, List.set_cons_succ]
  refine wpAnyH_take (i := 3) (v := .int .i64 n) (oi := { dst := some 41, op := Op.call { callee := Callee.builtin Builtin.len, args := #[Operand.tmp 40], argTypes := #[44] }, type := 3, pos := "outright.go:255", after := #[{ on := 2, ground := Ground.data }], guard := none }) rfl (by kernel_rfl) (by kernel_rfl) (by kernel_rfl) (fun _ _ _ h => h) (Or.inl ⟨by rfl, fun W hS => by obtain ⟨s1, s2, s3⟩ := hS; go_simp⟩) (S0 _ e0) ?_
  simp only [Act.put, List.setIfInBounds_toArray, List.set_cons_zero, List.set_cons_succ]
  refine wpAnyH_take (i := 4) (v := .int .i64 ((n : Int) + 1)) (oi := { dst := some 42, op := Op.binOp BinOp.add 3 (Operand.tmp 41) (Operand.const (Value.int IntKind.i64 1)) 3, type := 3, pos := "outright.go:255", after := #[{ on := 3, ground := Ground.data }], guard := none }) rfl (by kernel_rfl) (by kernel_rfl) (by kernel_rfl) (fun _ _ _ h => h) (Or.inl ⟨by rfl, fun W hS => by obtain ⟨s1, s2, s3⟩ := hS; go_simp⟩) (S0 _ e0) ?_
  simp only [Act.put, List.setIfInBounds_toArray, List.set_cons_zero, List.set_cons_succ]
  refine wpAnyH_take (i := 6) (v := .slice Ag q cg) (oi := { dst := some 44, op := Op.load 44 (Operand.tmp 8), type := 44, pos := "outright.go:255", after := #[], guard := none }) rfl (by kernel_rfl) (by kernel_rfl) (by kernel_rfl) (fun _ _ _ h => h) (Or.inl ⟨by rfl, fun W hS => by obtain ⟨s1, s2, s3⟩ := hS; go_simp⟩) (S0 _ e0) ?_
  simp only [Act.put, List.setIfInBounds_toArray, List.set_cons_zero, List.set_cons_succ]
  refine wpAnyH_take (i := 7) (v := .int .i64 q) (oi := { dst := some 45, op := Op.call { callee := Callee.builtin Builtin.len, args := #[Operand.tmp 44], argTypes := #[44] }, type := 3, pos := "outright.go:255", after := #[{ on := 6, ground := Ground.data }], guard := none }) rfl (by kernel_rfl) (by kernel_rfl) (by kernel_rfl) (fun _ _ _ h => h) (Or.inl ⟨by rfl, fun W hS => by obtain ⟨s1, s2, s3⟩ := hS; go_simp⟩) (S0 _ e0) ?_
  simp only [Act.put, List.setIfInBounds_toArray, List.set_cons_zero, List.set_cons_succ]
  refine wpAnyH_take (i := 9) (v := .slice Ai n cap) (oi := { dst := some 47, op := Op.load 44 (Operand.tmp 7), type := 44, pos := "outright.go:255", after := #[], guard := none }) rfl (by kernel_rfl) (by kernel_rfl) (by kernel_rfl) (fun _ _ _ h => h) (Or.inl ⟨by rfl, fun W hS => by obtain ⟨s1, s2, s3⟩ := hS; go_simp⟩) (S0 _ e0) ?_
  simp only [Act.put, List.setIfInBounds_toArray, List.set_cons_zero, List.set_cons_succ]
  refine wpAnyH_take (i := 10) (v := .int .i64 n) (oi := { dst := some 48, op := Op.call { callee := Callee.builtin Builtin.len, args := #[Operand.tmp 47], argTypes := #[44] }, type := 3, pos := "outright.go:255", after := #[{ on := 9, ground := Ground.data }], guard := none }) rfl (by kernel_rfl) (by kernel_rfl) (by kernel_rfl) (fun _ _ _ h => h) (Or.inl ⟨by rfl, fun W hS => by obtain ⟨s1, s2, s3⟩ := hS; go_simp⟩) (S0 _ e0) ?_
  simp only [Act.put, List.setIfInBounds_toArray, List.set_cons_zero, List.set_cons_succ]
  refine wpAnyH_take (i := 11) (v := .int .i64 ((n : Int) + 1)) (oi := { dst := some 49, op := Op.binOp BinOp.add 3 (Operand.tmp 48) (Operand.const (Value.int IntKind.i64 1)) 3, type := 3, pos := "outright.go:255", after := #[{ on := 10, ground := Ground.data }], guard := none }) rfl (by kernel_rfl) (by kernel_rfl) (by kernel_rfl) (fun _ _ _ h => h) (Or.inl ⟨by rfl, fun W hS => by obtain ⟨s1, s2, s3⟩ := hS; go_simp⟩) (S0 _ e0) ?_
  simp only [Act.put, List.setIfInBounds_toArray, List.set_cons_zero, List.set_cons_succ]
  refine wpAnyH_all (rs := [5, 13]) (by kernel_rfl) (by simp) ?_
  refine AllReadyH.cons (o := { dst := some 43, op := Op.call { callee := Callee.value (Operand.func 11), args := #[Operand.tmp 39, Operand.tmp 42], argTypes := #[3, 3] }, type := 3, pos := "outright.go:255", after := #[{ on := 1, ground := Ground.data }, { on := 4, ground := Ground.data }], guard := none }) rfl (fun K hK => ?_) (AllReadyH.cons (o := { dst := some 10, op := Op.alloc 3, type := 0, pos := "outright.go:255", after := #[], guard := none }) rfl (fun K hK => ?_) (AllReadyH.nil))
  · refine stepH_enter (v := .int .i64 m1) (w' := W) rfl (by go_simp) (hc1 _) (fun wc hd => hK _ _ (S0 _ (e0.drawn hd)) (fun _ => ?_))
    simp only [Act.put, List.setIfInBounds_toArray, List.set_cons_zero, List.set_cons_succ]
    have e10_5 := e0.drawn hd
    clear hd hK
    refine wpAnyH_take (i := 8) (v := .int .i64 (m1 + (q : Int))) (oi := { dst := some 46, op := Op.binOp BinOp.add 3 (Operand.tmp 43) (Operand.tmp 45) 3, type := 3, pos := "outright.go:255", after := #[{ on := 5, ground := Ground.data }, { on := 7, ground := Ground.data }], guard := none }) rfl (by kernel_rfl) (by kernel_rfl) (by kernel_rfl) (fun _ _ _ h => h) (Or.inl ⟨by rfl, fun W hS => by obtain ⟨s1, s2, s3⟩ := hS; go_simp⟩) (S0 _ e10_5) ?_
    simp only [Act.put, List.setIfInBounds_toArray, List.set_cons_zero, List.set_cons_succ]
    refine wpAnyH_all (rs := [12, 13]) (by kernel_rfl) (by simp) ?_
    refine AllReadyH.cons (o := { dst := some 50, op := Op.call { callee := Callee.value (Operand.func 11), args := #[Operand.tmp 46, Operand.tmp 49], argTypes := #[3, 3] }, type := 3, pos := "outright.go:255", after := #[{ on := 8, ground := Ground.data }, { on := 11, ground := Ground.data }, { on := 5, ground := Ground.chain }], guard := none }) rfl (fun K hK => ?_) (AllReadyH.cons (o := { dst := some 10, op := Op.alloc 3, type := 0, pos := "outright.go:255", after := #[], guard := none }) rfl (fun K hK => ?_) (AllReadyH.nil))
    · refine stepH_enter (v := .int .i64 m2) (w' := wc) rfl (by go_simp) (hc2 _) (fun wc hd => hK _ _ (S0 _ (e10_5.drawn hd)) (fun _ => ?_))
      simp only [Act.put, List.setIfInBounds_toArray, List.set_cons_zero, List.set_cons_succ]
      have e12_12 := e10_5.drawn hd
      clear hd hK
      refine wpAnyH_all (rs := [13]) (by kernel_rfl) (by simp) ?_
      refine AllReadyH.cons (o := { dst := some 10, op := Op.alloc 3, type := 0, pos := "outright.go:255", after := #[], guard := none }) rfl (fun K hK => ?_) (AllReadyH.nil)
      · have a13 := Eqv.alloc e12_12 z
        refine stepH_val (v := .pointer (some ⟨w.heap.size, 0, none⟩)) (w' := wc.alloc z) rfl (by rw [← hz, ← Eqv.size e12_12]; go_simp) (hK _ _ (S1 _ a13) (fun _ => ?_))
        simp only [Act.put, List.setIfInBounds_toArray, List.set_cons_zero, List.set_cons_succ]
        refine wpAnyH_all (rs := [14]) (by kernel_rfl) (by simp) ?_
        refine AllReadyH.cons (o := { dst := none, op := Op.store 3 (Operand.tmp 10) (Operand.tmp 50), type := 0, pos := "outright.go:255", after := #[{ on := 13, ground := Ground.data }, { on := 12, ground := Ground.data }, { on := 12, ground := Ground.chain }, { on := 0, ground := Ground.phase }, { on := 1, ground := Ground.phase }, { on := 2, ground := Ground.phase }, { on := 3, ground := Ground.phase }, { on := 4, ground := Ground.phase }, { on := 5, ground := Ground.phase }, { on := 6, ground := Ground.phase }, { on := 7, ground := Ground.phase }, { on := 8, ground := Ground.phase }, { on := 9, ground := Ground.phase }, { on := 10, ground := Ground.phase }, { on := 11, ground := Ground.phase }, { on := 12, ground := Ground.phase }, { on := 13, ground := Ground.phase }], guard := none }) rfl (fun K hK => ?_) (AllReadyH.nil)
        · have hbk : Blk (wc.alloc z) w.heap.size 3 [.int .i64 0] := (by rw [a13.heap]; exact hz ▸ Blk.new w 3 [.int .i64 0] : ((wc.alloc z)).heap[w.heap.size]? = _)
          have hc0 := hbk.cell 0
          have hf0 := hbk.frozen 0
          have hbw : Below w.heap.size w ((wc.alloc z)) := below_of_eqv (below_alloc (Below.refl _ _) z) a13
          have hbz : Below w.heap.size w (((wc.alloc z)).setCell ⟨w.heap.size, 0, none⟩ (.int .i64 m2)) := below_but hbw ((But.refl w.heap.size _).set 0 _) (Nat.le_refl _) hbw.size
          refine stepH_skip (w' := ((wc.alloc z)).setCell ⟨w.heap.size, 0, none⟩ (.int .i64 m2)) rfl (by go_simp) (hK _ _ ⟨pw_cell_below hbz h1, pw_cell_below hbz h2, pw_cell_below hbz h3⟩ (fun _ => ?_))
          simp only [Act.put, List.setIfInBounds_toArray, List.set_cons_zero, List.set_cons_succ]
          refine wpAnyH_done (by kernel_rfl) ?_ _
          exact hQ _ (hbk.set 0 (.int .i64 m2)) hbz
    · have a12 := Eqv.alloc e10_5 z
      refine stepH_val (v := .pointer (some ⟨w.heap.size, 0, none⟩)) (w' := wc.alloc z) rfl (by rw [← hz, ← Eqv.size e10_5]; go_simp) (hK _ _ (S1 _ a12) (fun _ => ?_))
      simp only [Act.put, List.setIfInBounds_toArray, List.set_cons_zero, List.set_cons_succ]
      refine wpAnyH_all (rs := [12]) (by kernel_rfl) (by simp) ?_
      refine AllReadyH.cons (o := { dst := some 50, op := Op.call { callee := Callee.value (Operand.func 11), args := #[Operand.tmp 46, Operand.tmp 49], argTypes := #[3, 3] }, type := 3, pos := "outright.go:255", after := #[{ on := 8, ground := Ground.data }, { on := 11, ground := Ground.data }, { on := 5, ground := Ground.chain }], guard := none }) rfl (fun K hK => ?_) (AllReadyH.nil)
      · refine stepH_enter (v := .int .i64 m2) (w' := (wc.alloc z)) rfl (by go_simp) (hc2 _) (fun wc hd => hK _ _ (S1 _ (a12.drawn hd)) (fun _ => ?_))
        simp only [Act.put, List.setIfInBounds_toArray, List.set_cons_zero, List.set_cons_succ]
        have e13_12 := a12.drawn hd
        clear hd hK
        refine wpAnyH_all (rs := [14]) (by kernel_rfl) (by simp) ?_
        refine AllReadyH.cons (o := { dst := none, op := Op.store 3 (Operand.tmp 10) (Operand.tmp 50), type := 0, pos := "outright.go:255", after := #[{ on := 13, ground := Ground.data }, { on := 12, ground := Ground.data }, { on := 12, ground := Ground.chain }, { on := 0, ground := Ground.phase }, { on := 1, ground := Ground.phase }, { on := 2, ground := Ground.phase }, { on := 3, ground := Ground.phase }, { on := 4, ground := Ground.phase }, { on := 5, ground := Ground.phase }, { on := 6, ground := Ground.phase }, { on := 7, ground := Ground.phase }, { on := 8, ground := Ground.phase }, { on := 9, ground := Ground.phase }, { on := 10, ground := Ground.phase }, { on := 11, ground := Ground.phase }, { on := 12, ground := Ground.phase }, { on := 13, ground := Ground.phase }], guard := none }) rfl (fun K hK => ?_) (AllReadyH.nil)
        · have hbk : Blk wc w.heap.size 3 [.int .i64 0] := (by rw [e13_12.heap]; exact hz ▸ Blk.new w 3 [.int .i64 0] : (wc).heap[w.heap.size]? = _)
          have hc0 := hbk.cell 0
          have hf0 := hbk.frozen 0
          have hbw : Below w.heap.size w (wc) := below_of_eqv (below_alloc (Below.refl _ _) z) e13_12
          have hbz : Below w.heap.size w ((wc).setCell ⟨w.heap.size, 0, none⟩ (.int .i64 m2)) := below_but hbw ((But.refl w.heap.size _).set 0 _) (Nat.le_refl _) hbw.size
          refine stepH_skip (w' := (wc).setCell ⟨w.heap.size, 0, none⟩ (.int .i64 m2)) rfl (by go_simp) (hK _ _ ⟨pw_cell_below hbz h1, pw_cell_below hbz h2, pw_cell_below hbz h3⟩ (fun _ => ?_))
          simp only [Act.put, List.setIfInBounds_toArray, List.set_cons_zero, List.set_cons_succ]
          refine wpAnyH_done (by kernel_rfl) ?_ _
          exact hQ _ (hbk.set 0 (.int .i64 m2)) hbz
  · have a10 := Eqv.alloc e0 z
    refine stepH_val (v := .pointer (some ⟨w.heap.size, 0, none⟩)) (w' := W.alloc z) rfl (by rw [← hz, ← Eqv.size e0]; go_simp) (hK _ _ (S1 _ a10) (fun _ => ?_))
    simp only [Act.put, List.setIfInBounds_toArray, List.set_cons_zero, List.set_cons_succ]
    refine wpAnyH_all (rs := [5]) (by kernel_rfl) (by simp) ?_
    refine AllReadyH.cons (o := { dst := some 43, op := Op.call { callee := Callee.value (Operand.func 11), args := #[Operand.tmp 39, Operand.tmp 42], argTypes := #[3, 3] }, type := 3, pos := "outright.go:255", after := #[{ on := 1, ground := Ground.data }, { on := 4, ground := Ground.data }], guard := none }) rfl (fun K hK => ?_) (AllReadyH.nil)
    · refine stepH_enter (v := .int .i64 m1) (w' := (W.alloc z)) rfl (by go_simp) (hc1 _) (fun wc hd => hK _ _ (S1 _ (a10.drawn hd)) (fun _ => ?_))
      simp only [Act.put, List.setIfInBounds_toArray, List.set_cons_zero, List.set_cons_succ]
      have e11_5 := a10.drawn hd
      clear hd hK
      refine wpAnyH_take (i := 8) (v := .int .i64 (m1 + (q : Int))) (oi := { dst := some 46, op := Op.binOp BinOp.add 3 (Operand.tmp 43) (Operand.tmp 45) 3, type := 3, pos := "outright.go:255", after := #[{ on := 5, ground := Ground.data }, { on := 7, ground := Ground.data }], guard := none }) rfl (by kernel_rfl) (by kernel_rfl) (by kernel_rfl) (fun _ _ _ h => h) (Or.inl ⟨by rfl, fun W hS => by obtain ⟨s1, s2, s3⟩ := hS; go_simp⟩) (S1 _ e11_5) ?_
      simp only [Act.put, List.setIfInBounds_toArray, List.set_cons_zero, List.set_cons_succ]
      refine wpAnyH_all (rs := [12]) (by kernel_rfl) (by simp) ?_
      refine AllReadyH.cons (o := { dst := some 50, op := Op.call { callee := Callee.value (Operand.func 11), args := #[Operand.tmp 46, Operand.tmp 49], argTypes := #[3, 3] }, type := 3, pos := "outright.go:255", after := #[{ on := 8, ground := Ground.data }, { on := 11, ground := Ground.data }, { on := 5, ground := Ground.chain }], guard := none }) rfl (fun K hK => ?_) (AllReadyH.nil)
      · refine stepH_enter (v := .int .i64 m2) (w' := wc) rfl (by go_simp) (hc2 _) (fun wc hd => hK _ _ (S1 _ (e11_5.drawn hd)) (fun _ => ?_))
        simp only [Act.put, List.setIfInBounds_toArray, List.set_cons_zero, List.set_cons_succ]
        have e13_12 := e11_5.drawn hd
        clear hd hK
        refine wpAnyH_all (rs := [14]) (by kernel_rfl) (by simp) ?_
        refine AllReadyH.cons (o := { dst := none, op := Op.store 3 (Operand.tmp 10) (Operand.tmp 50), type := 0, pos := "outright.go:255", after := #[{ on := 13, ground := Ground.data }, { on := 12, ground := Ground.data }, { on := 12, ground := Ground.chain }, { on := 0, ground := Ground.phase }, { on := 1, ground := Ground.phase }, { on := 2, ground := Ground.phase }, { on := 3, ground := Ground.phase }, { on := 4, ground := Ground.phase }, { on := 5, ground := Ground.phase }, { on := 6, ground := Ground.phase }, { on := 7, ground := Ground.phase }, { on := 8, ground := Ground.phase }, { on := 9, ground := Ground.phase }, { on := 10, ground := Ground.phase }, { on := 11, ground := Ground.phase }, { on := 12, ground := Ground.phase }, { on := 13, ground := Ground.phase }], guard := none }) rfl (fun K hK => ?_) (AllReadyH.nil)
        · have hbk : Blk wc w.heap.size 3 [.int .i64 0] := (by rw [e13_12.heap]; exact hz ▸ Blk.new w 3 [.int .i64 0] : (wc).heap[w.heap.size]? = _)
          have hc0 := hbk.cell 0
          have hf0 := hbk.frozen 0
          have hbw : Below w.heap.size w (wc) := below_of_eqv (below_alloc (Below.refl _ _) z) e13_12
          have hbz : Below w.heap.size w ((wc).setCell ⟨w.heap.size, 0, none⟩ (.int .i64 m2)) := below_but hbw ((But.refl w.heap.size _).set 0 _) (Nat.le_refl _) hbw.size
          refine stepH_skip (w' := (wc).setCell ⟨w.heap.size, 0, none⟩ (.int .i64 m2)) rfl (by go_simp) (hK _ _ ⟨pw_cell_below hbz h1, pw_cell_below hbz h2, pw_cell_below hbz h3⟩ (fun _ => ?_))
          simp only [Act.put, List.setIfInBounds_toArray, List.set_cons_zero, List.set_cons_succ]
          refine wpAnyH_done (by kernel_rfl) ?_ _
          exact hQ _ (hbk.set 0 (.int .i64 m2)) hbz
end Go.Proofs.YtfbkkcigkpffiaaDoor.St
