/- The region of All's iterator that calls yield. -/
import Derived.Test.YtfbkkcigkpffiaaDoorIa
namespace Go.Proofs.YtfbkkcigkpffiaaDoor.St
open Go Go.Lib Go.RowKit Go.ChangeMaps Go.Proofs.YtfbkkcigkpffiaaDoorW.PrintWords Go.Proofs.YtfbkkcigkpffiaaDoorW.PrintLast Go.Proofs.YtfbkkcigkpffiaaDoorW.PrintMore Go.Proofs.YtfbkkcigkpffiaaDoor.PStoreMany
set_option linter.unusedVariables false
set_option linter.unusedSimpArgs false
set_option maxRecDepth 100000 in
set_option maxHeartbeats 4000000 in
theorem region_yield {Q : Exit → Act → World → Prop} (l m r : Nat) (k : By) (v : Value) (u1 u2 u3 u5 u6 u7 u9 u10 u11 u12 u13 u14 u15 u16 u17 u18 u19 u20 u21 u22 u23 u24 u25 u26 u27 u28 u29 u30 u31 u32 u33 u34 u35 u36 u37 u38 u39 u40 u41 u42 u43 : Value) (w : World) (Cl : World → Value → World → Prop) (Yt Yf : World → Value → World → Prop)
    (hL : ∀ W, Below w.heap.size w W → (Instr.loadAt 33 (.pointer (some ⟨r, 0, none⟩))).run Tryd.prog W = .ok (vId k) W)
    (hM : ∀ W, Below w.heap.size w W → (Instr.lookup 70 (.map (some m)) (vId k) false).run Tryd.prog W = .ok v W)
    (hC : ∀ W, Below w.heap.size w W → Calls Tryd.prog 35 #[v] W fun e w' => ∃ x, e = .returned x ∧ Cl W x w' ∧ Below w.heap.size w w')
    (hY : ∀ W x w', Below w.heap.size w W → Cl W x w' → Below w.heap.size w w' → ∀ n, YieldAt Fence.wide n Tryd.prog l #[vId k, x] w' fun e w'' => (e = .returned (.bool true) ∧ Yt w' x w'') ∨ (e = .returned (.bool false) ∧ Yf w' x w''))
    (hQ1 : ∀ W v40 w'', Below w.heap.size w W → Yt W v40 w'' → Q .normal { tmps := #[.func (.yield l) #[] #[], u1, u2, u3, .map (some m), u5, u6, u7, .pointer (some ⟨r, 0, none⟩), u9, u10, u11, u12, u13, u14, u15, u16, u17, u18, u19, u20, u21, u22, u23, u24, u25, u26, u27, u28, u29, u30, u31, u32, u33, u34, .func (.yield l) #[] #[], vId k, .map (some m), vId k, v, v40, .bool true, .bool false, u43], defers := [] } w'')
    (hQ2 : ∀ W v40 w'', Below w.heap.size w W → Yf W v40 w'' → Q .normal { tmps := #[.func (.yield l) #[] #[], u1, u2, u3, .map (some m), u5, u6, u7, .pointer (some ⟨r, 0, none⟩), u9, u10, u11, u12, u13, u14, u15, u16, u17, u18, u19, u20, u21, u22, u23, u24, u25, u26, u27, u28, u29, u30, u31, u32, u33, u34, .func (.yield l) #[] #[], vId k, .map (some m), vId k, v, v40, .bool false, .bool true, u43], defers := [] } w'') :
    (Code.region 11 #[{ dst := some 35, op := Op.move (Operand.tmp 0), type := 86, pos := "store.go:92", after := #[], guard := none }, { dst := some 36, op := Op.load 33 (Operand.tmp 8), type := 33, pos := "store.go:92", after := #[], guard := none }, { dst := some 37, op := Op.move (Operand.tmp 4), type := 70, pos := "store.go:92", after := #[], guard := none }, { dst := some 38, op := Op.load 33 (Operand.tmp 8), type := 33, pos := "store.go:92", after := #[], guard := none }, { dst := some 39, op := Op.lookup 70 (Operand.tmp 37) (Operand.tmp 38) false, type := 30, pos := "store.go:92", after := #[{ on := 2, ground := Ground.data }, { on := 3, ground := Ground.data }], guard := none }, { dst := some 40, op := Op.call { callee := Callee.value (Operand.func 35), args := #[Operand.tmp 39], argTypes := #[30] }, type := 30, pos := "store.go:92", after := #[{ on := 4, ground := Ground.data }], guard := none }, { dst := some 41, op := Op.call { callee := Callee.value (Operand.tmp 35), args := #[Operand.tmp 36, Operand.tmp 40], argTypes := #[33, 30] }, type := 4, pos := "store.go:92", after := #[{ on := 0, ground := Ground.data }, { on := 1, ground := Ground.data }, { on := 5, ground := Ground.data }, { on := 5, ground := Ground.chain }], guard := none }, { dst := some 42, op := Op.unOp UnOp.not 4 (Operand.tmp 41), type := 4, pos := "store.go:92", after := #[{ on := 6, ground := Ground.data }], guard := none }] true).wp Tryd.prog Q { tmps := #[.func (.yield l) #[] #[], u1, u2, u3, .map (some m), u5, u6, u7, .pointer (some ⟨r, 0, none⟩), u9, u10, u11, u12, u13, u14, u15, u16, u17, u18, u19, u20, u21, u22, u23, u24, u25, u26, u27, u28, u29, u30, u31, u32, u33, u34, u35, u36, u37, u38, u39, u40, u41, u42, u43], defers := [] } w := by
  have e35 : ∀ args w, (callFunc 35 args).run Tryd.prog w = .ok (.enter 35 args) w := enters_of Tryd.func35 (by kernel_rfl) rfl
  have key : ∀ (K : Act → World → Prop), (∀ W v40 w'', Below w.heap.size w W → Yt W v40 w'' → K { tmps := #[.func (.yield l) #[] #[], u1, u2, u3, .map (some m), u5, u6, u7, .pointer (some ⟨r, 0, none⟩), u9, u10, u11, u12, u13, u14, u15, u16, u17, u18, u19, u20, u21, u22, u23, u24, u25, u26, u27, u28, u29, u30, u31, u32, u33, u34, .func (.yield l) #[] #[], vId k, .map (some m), vId k, v, v40, .bool true, .bool false, u43], defers := [] } w'') → (∀ W v40 w'', Below w.heap.size w W → Yf W v40 w'' → K { tmps := #[.func (.yield l) #[] #[], u1, u2, u3, .map (some m), u5, u6, u7, .pointer (some ⟨r, 0, none⟩), u9, u10, u11, u12, u13, u14, u15, u16, u17, u18, u19, u20, u21, u22, u23, u24, u25, u26, u27, u28, u29, u30, u31, u32, u33, u34, .func (.yield l) #[] #[], vId k, .map (some m), vId k, v, v40, .bool false, .bool true, u43], defers := [] } w'') →
      (Code.region 11 #[{ dst := some 35, op := Op.move (Operand.tmp 0), type := 86, pos := "store.go:92", after := #[], guard := none }, { dst := some 36, op := Op.load 33 (Operand.tmp 8), type := 33, pos := "store.go:92", after := #[], guard := none }, { dst := some 37, op := Op.move (Operand.tmp 4), type := 70, pos := "store.go:92", after := #[], guard := none }, { dst := some 38, op := Op.load 33 (Operand.tmp 8), type := 33, pos := "store.go:92", after := #[], guard := none }, { dst := some 39, op := Op.lookup 70 (Operand.tmp 37) (Operand.tmp 38) false, type := 30, pos := "store.go:92", after := #[{ on := 2, ground := Ground.data }, { on := 3, ground := Ground.data }], guard := none }, { dst := some 40, op := Op.call { callee := Callee.value (Operand.func 35), args := #[Operand.tmp 39], argTypes := #[30] }, type := 30, pos := "store.go:92", after := #[{ on := 4, ground := Ground.data }], guard := none }, { dst := some 41, op := Op.call { callee := Callee.value (Operand.tmp 35), args := #[Operand.tmp 36, Operand.tmp 40], argTypes := #[33, 30] }, type := 4, pos := "store.go:92", after := #[{ on := 0, ground := Ground.data }, { on := 1, ground := Ground.data }, { on := 5, ground := Ground.data }, { on := 5, ground := Ground.chain }], guard := none }, { dst := some 42, op := Op.unOp UnOp.not 4 (Operand.tmp 41), type := 4, pos := "store.go:92", after := #[{ on := 6, ground := Ground.data }], guard := none }] true).wpIn Fence.wide 0 Tryd.prog (Goes K) { tmps := #[.func (.yield l) #[] #[], u1, u2, u3, .map (some m), u5, u6, u7, .pointer (some ⟨r, 0, none⟩), u9, u10, u11, u12, u13, u14, u15, u16, u17, u18, u19, u20, u21, u22, u23, u24, u25, u26, u27, u28, u29, u30, u31, u32, u33, u34, u35, u36, u37, u38, u39, u40, u41, u42, u43], defers := [] } w := by
    intro K q1 q2
    dsimp only at q1 q2
    refine wpIn_region_any (by kernel_rfl) ?_
    change wpAnyIn _ _ _ _ _ _ _ _ _ (World.drew w)
    have hb : Below w.heap.size w w.drew := pw_below_drewN (Below.refl _ _) 1
    obtain ⟨W, hW⟩ : ∃ W, w.drew = W := ⟨_, rfl⟩
    rw [hW] at hb ⊢
    clear hW
    refine wpAnyIn_take (i := 0) (v := .func (.yield l) #[] #[]) (oi := { dst := some 35, op := Op.move (Operand.tmp 0), type := 86, pos := "store.go:92", after := #[], guard := none }) rfl rfl (by kernel_rfl) (by kernel_rfl) (by kernel_rfl) (fun _ _ _ h => h) ⟨Or.inl ⟨by rfl, fun w => by simp [go_sem, execOp]⟩, fun _ => rfl⟩ ?_
    simp only [Act.put, List.setIfInBounds_toArray, List.set_cons_zero, List.set_cons_succ]
    refine wpAnyIn_take (i := 2) (v := .map (some m)) (oi := { dst := some 37, op := Op.move (Operand.tmp 4), type := 70, pos := "store.go:92", after := #[], guard := none }) rfl rfl (by kernel_rfl) (by kernel_rfl) (by kernel_rfl) (fun _ _ _ h => h) ⟨Or.inl ⟨by rfl, fun w => by simp [go_sem, execOp]⟩, fun _ => rfl⟩ ?_
    simp only [Act.put, List.setIfInBounds_toArray, List.set_cons_zero, List.set_cons_succ]
    refine wpAnyIn_ready (rs := [1, 3]) (by kernel_rfl) (by simp) ?_
    refine AllReadyIn.cons (o := { dst := some 36, op := Op.load 33 (Operand.tmp 8), type := 33, pos := "store.go:92", after := #[], guard := none }) rfl (fun K hK => ?_) (AllReadyIn.cons (o := { dst := some 38, op := Op.load 33 (Operand.tmp 8), type := 33, pos := "store.go:92", after := #[], guard := none }) rfl (fun K hK => ?_) (AllReadyIn.nil))
    · refine step_val rfl rfl (exec_ld rfl rfl (hL _ hb)) (hK _ _ ?_)
      simp only [Act.put, List.setIfInBounds_toArray, List.set_cons_zero, List.set_cons_succ]
      refine wpAnyIn_ready (rs := [3]) (by kernel_rfl) (by simp) ?_
      refine AllReadyIn.cons (o := { dst := some 38, op := Op.load 33 (Operand.tmp 8), type := 33, pos := "store.go:92", after := #[], guard := none }) rfl (fun K hK => ?_) (AllReadyIn.nil)
      · refine step_val rfl rfl (exec_ld rfl rfl (hL _ hb)) (hK _ _ ?_)
        simp only [Act.put, List.setIfInBounds_toArray, List.set_cons_zero, List.set_cons_succ]
        refine wpAnyIn_ready (rs := [4]) (by kernel_rfl) (by simp) ?_
        refine AllReadyIn.cons (o := { dst := some 39, op := Op.lookup 70 (Operand.tmp 37) (Operand.tmp 38) false, type := 30, pos := "store.go:92", after := #[{ on := 2, ground := Ground.data }, { on := 3, ground := Ground.data }], guard := none }) rfl (fun K hK => ?_) (AllReadyIn.nil)
        · refine step_val rfl rfl (exec_look rfl rfl rfl (hM _ hb)) (hK _ _ ?_)
          simp only [Act.put, List.setIfInBounds_toArray, List.set_cons_zero, List.set_cons_succ]
          refine wpAnyIn_ready (rs := [5]) (by kernel_rfl) (by simp) ?_
          refine AllReadyIn.cons (o := { dst := some 40, op := Op.call { callee := Callee.value (Operand.func 35), args := #[Operand.tmp 39], argTypes := #[30] }, type := 30, pos := "store.go:92", after := #[{ on := 4, ground := Ground.data }], guard := none }) rfl (fun K hK => ?_) (AllReadyIn.nil)
          · refine step_enter rfl rfl (f := 35) (args := #[v]) (w' := W) (by simp [execOp, resolve, invoke, go_sem, e35, Act.put, Act.eval]) (hC _ hb) (fun v40 wc hc => hK _ _ ?_)
            simp only [Act.put, List.setIfInBounds_toArray, List.set_cons_zero, List.set_cons_succ]
            refine wpAnyIn_ready (rs := [6]) (by kernel_rfl) (by simp) ?_
            refine AllReadyIn.cons (o := { dst := some 41, op := Op.call { callee := Callee.value (Operand.tmp 35), args := #[Operand.tmp 36, Operand.tmp 40], argTypes := #[33, 30] }, type := 4, pos := "store.go:92", after := #[{ on := 0, ground := Ground.data }, { on := 1, ground := Ground.data }, { on := 5, ground := Ground.data }, { on := 5, ground := Ground.chain }], guard := none }) rfl (fun K hK => ?_) (AllReadyIn.nil)
            · obtain ⟨fn, tmps, assign, body, hy, hr⟩ := hY _ _ _ hb hc.1 hc.2 (0 - 1)
              refine step_round rfl rfl (l := l) (fn := fn) (tmps := tmps) (assign := assign) (body := body) (w' := wc) (by simp [execOp, resolve, invoke, go_sem, Act.put, Act.eval, hy]) (R := fun x w'' => (x = .bool true ∧ Yt wc v40 w'') ∨ (x = .bool false ∧ Yf wc v40 w'')) (hr.mono (fun e w'' h => h.elim (fun h => ⟨_, h.1, .inl ⟨rfl, h.2⟩⟩) (fun h => ⟨_, h.1, .inr ⟨rfl, h.2⟩⟩))) (fun x wy hx => hK _ _ ?_)
              simp only [Act.put, List.setIfInBounds_toArray, List.set_cons_zero, List.set_cons_succ]
              rcases hx with ⟨rfl, hx⟩ | ⟨rfl, hx⟩
              · refine wpAnyIn_ready (rs := [7]) (by kernel_rfl) (by simp) ?_
                refine AllReadyIn.cons (o := { dst := some 42, op := Op.unOp UnOp.not 4 (Operand.tmp 41), type := 4, pos := "store.go:92", after := #[{ on := 6, ground := Ground.data }], guard := none }) rfl (fun K hK => ?_) AllReadyIn.nil
                refine step_val (v := .bool false) (w' := wy) rfl rfl (by simp [execOp, go_sem, Act.put, Act.eval]) (hK _ _ ?_)
                simp only [Act.put, List.setIfInBounds_toArray, List.set_cons_zero, List.set_cons_succ]
                refine wpAnyIn_done (by kernel_rfl) ?_ _
                exact q1 wc v40 wy hc.2 hx
              · refine wpAnyIn_ready (rs := [7]) (by kernel_rfl) (by simp) ?_
                refine AllReadyIn.cons (o := { dst := some 42, op := Op.unOp UnOp.not 4 (Operand.tmp 41), type := 4, pos := "store.go:92", after := #[{ on := 6, ground := Ground.data }], guard := none }) rfl (fun K hK => ?_) AllReadyIn.nil
                refine step_val (v := .bool true) (w' := wy) rfl rfl (by simp [execOp, go_sem, Act.put, Act.eval]) (hK _ _ ?_)
                simp only [Act.put, List.setIfInBounds_toArray, List.set_cons_zero, List.set_cons_succ]
                refine wpAnyIn_done (by kernel_rfl) ?_ _
                exact q2 wc v40 wy hc.2 hx
    · refine step_val rfl rfl (exec_ld rfl rfl (hL _ hb)) (hK _ _ ?_)
      simp only [Act.put, List.setIfInBounds_toArray, List.set_cons_zero, List.set_cons_succ]
      refine wpAnyIn_ready (rs := [1, 4]) (by kernel_rfl) (by simp) ?_
      refine AllReadyIn.cons (o := { dst := some 36, op := Op.load 33 (Operand.tmp 8), type := 33, pos := "store.go:92", after := #[], guard := none }) rfl (fun K hK => ?_) (AllReadyIn.cons (o := { dst := some 39, op := Op.lookup 70 (Operand.tmp 37) (Operand.tmp 38) false, type := 30, pos := "store.go:92", after := #[{ on := 2, ground := Ground.data }, { on := 3, ground := Ground.data }], guard := none }) rfl (fun K hK => ?_) (AllReadyIn.nil))
      · refine step_val rfl rfl (exec_ld rfl rfl (hL _ hb)) (hK _ _ ?_)
        simp only [Act.put, List.setIfInBounds_toArray, List.set_cons_zero, List.set_cons_succ]
        refine wpAnyIn_ready (rs := [4]) (by kernel_rfl) (by simp) ?_
        refine AllReadyIn.cons (o := { dst := some 39, op := Op.lookup 70 (Operand.tmp 37) (Operand.tmp 38) false, type := 30, pos := "store.go:92", after := #[{ on := 2, ground := Ground.data }, { on := 3, ground := Ground.data }], guard := none }) rfl (fun K hK => ?_) (AllReadyIn.nil)
        · refine step_val rfl rfl (exec_look rfl rfl rfl (hM _ hb)) (hK _ _ ?_)
          simp only [Act.put, List.setIfInBounds_toArray, List.set_cons_zero, List.set_cons_succ]
          refine wpAnyIn_ready (rs := [5]) (by kernel_rfl) (by simp) ?_
          refine AllReadyIn.cons (o := { dst := some 40, op := Op.call { callee := Callee.value (Operand.func 35), args := #[Operand.tmp 39], argTypes := #[30] }, type := 30, pos := "store.go:92", after := #[{ on := 4, ground := Ground.data }], guard := none }) rfl (fun K hK => ?_) (AllReadyIn.nil)
          · refine step_enter rfl rfl (f := 35) (args := #[v]) (w' := W) (by simp [execOp, resolve, invoke, go_sem, e35, Act.put, Act.eval]) (hC _ hb) (fun v40 wc hc => hK _ _ ?_)
            simp only [Act.put, List.setIfInBounds_toArray, List.set_cons_zero, List.set_cons_succ]
            refine wpAnyIn_ready (rs := [6]) (by kernel_rfl) (by simp) ?_
            refine AllReadyIn.cons (o := { dst := some 41, op := Op.call { callee := Callee.value (Operand.tmp 35), args := #[Operand.tmp 36, Operand.tmp 40], argTypes := #[33, 30] }, type := 4, pos := "store.go:92", after := #[{ on := 0, ground := Ground.data }, { on := 1, ground := Ground.data }, { on := 5, ground := Ground.data }, { on := 5, ground := Ground.chain }], guard := none }) rfl (fun K hK => ?_) (AllReadyIn.nil)
            · obtain ⟨fn, tmps, assign, body, hy, hr⟩ := hY _ _ _ hb hc.1 hc.2 (0 - 1)
              refine step_round rfl rfl (l := l) (fn := fn) (tmps := tmps) (assign := assign) (body := body) (w' := wc) (by simp [execOp, resolve, invoke, go_sem, Act.put, Act.eval, hy]) (R := fun x w'' => (x = .bool true ∧ Yt wc v40 w'') ∨ (x = .bool false ∧ Yf wc v40 w'')) (hr.mono (fun e w'' h => h.elim (fun h => ⟨_, h.1, .inl ⟨rfl, h.2⟩⟩) (fun h => ⟨_, h.1, .inr ⟨rfl, h.2⟩⟩))) (fun x wy hx => hK _ _ ?_)
              simp only [Act.put, List.setIfInBounds_toArray, List.set_cons_zero, List.set_cons_succ]
              rcases hx with ⟨rfl, hx⟩ | ⟨rfl, hx⟩
              · refine wpAnyIn_ready (rs := [7]) (by kernel_rfl) (by simp) ?_
                refine AllReadyIn.cons (o := { dst := some 42, op := Op.unOp UnOp.not 4 (Operand.tmp 41), type := 4, pos := "store.go:92", after := #[{ on := 6, ground := Ground.data }], guard := none }) rfl (fun K hK => ?_) AllReadyIn.nil
                refine step_val (v := .bool false) (w' := wy) rfl rfl (by simp [execOp, go_sem, Act.put, Act.eval]) (hK _ _ ?_)
                simp only [Act.put, List.setIfInBounds_toArray, List.set_cons_zero, List.set_cons_succ]
                refine wpAnyIn_done (by kernel_rfl) ?_ _
                exact q1 wc v40 wy hc.2 hx
              · refine wpAnyIn_ready (rs := [7]) (by kernel_rfl) (by simp) ?_
                refine AllReadyIn.cons (o := { dst := some 42, op := Op.unOp UnOp.not 4 (Operand.tmp 41), type := 4, pos := "store.go:92", after := #[{ on := 6, ground := Ground.data }], guard := none }) rfl (fun K hK => ?_) AllReadyIn.nil
                refine step_val (v := .bool true) (w' := wy) rfl rfl (by simp [execOp, go_sem, Act.put, Act.eval]) (hK _ _ ?_)
                simp only [Act.put, List.setIfInBounds_toArray, List.set_cons_zero, List.set_cons_succ]
                refine wpAnyIn_done (by kernel_rfl) ?_ _
                exact q2 wc v40 wy hc.2 hx
      · refine step_val rfl rfl (exec_look rfl rfl rfl (hM _ hb)) (hK _ _ ?_)
        simp only [Act.put, List.setIfInBounds_toArray, List.set_cons_zero, List.set_cons_succ]
        refine wpAnyIn_ready (rs := [1, 5]) (by kernel_rfl) (by simp) ?_
        refine AllReadyIn.cons (o := { dst := some 36, op := Op.load 33 (Operand.tmp 8), type := 33, pos := "store.go:92", after := #[], guard := none }) rfl (fun K hK => ?_) (AllReadyIn.cons (o := { dst := some 40, op := Op.call { callee := Callee.value (Operand.func 35), args := #[Operand.tmp 39], argTypes := #[30] }, type := 30, pos := "store.go:92", after := #[{ on := 4, ground := Ground.data }], guard := none }) rfl (fun K hK => ?_) (AllReadyIn.nil))
        · refine step_val rfl rfl (exec_ld rfl rfl (hL _ hb)) (hK _ _ ?_)
          simp only [Act.put, List.setIfInBounds_toArray, List.set_cons_zero, List.set_cons_succ]
          refine wpAnyIn_ready (rs := [5]) (by kernel_rfl) (by simp) ?_
          refine AllReadyIn.cons (o := { dst := some 40, op := Op.call { callee := Callee.value (Operand.func 35), args := #[Operand.tmp 39], argTypes := #[30] }, type := 30, pos := "store.go:92", after := #[{ on := 4, ground := Ground.data }], guard := none }) rfl (fun K hK => ?_) (AllReadyIn.nil)
          · refine step_enter rfl rfl (f := 35) (args := #[v]) (w' := W) (by simp [execOp, resolve, invoke, go_sem, e35, Act.put, Act.eval]) (hC _ hb) (fun v40 wc hc => hK _ _ ?_)
            simp only [Act.put, List.setIfInBounds_toArray, List.set_cons_zero, List.set_cons_succ]
            refine wpAnyIn_ready (rs := [6]) (by kernel_rfl) (by simp) ?_
            refine AllReadyIn.cons (o := { dst := some 41, op := Op.call { callee := Callee.value (Operand.tmp 35), args := #[Operand.tmp 36, Operand.tmp 40], argTypes := #[33, 30] }, type := 4, pos := "store.go:92", after := #[{ on := 0, ground := Ground.data }, { on := 1, ground := Ground.data }, { on := 5, ground := Ground.data }, { on := 5, ground := Ground.chain }], guard := none }) rfl (fun K hK => ?_) (AllReadyIn.nil)
            · obtain ⟨fn, tmps, assign, body, hy, hr⟩ := hY _ _ _ hb hc.1 hc.2 (0 - 1)
              refine step_round rfl rfl (l := l) (fn := fn) (tmps := tmps) (assign := assign) (body := body) (w' := wc) (by simp [execOp, resolve, invoke, go_sem, Act.put, Act.eval, hy]) (R := fun x w'' => (x = .bool true ∧ Yt wc v40 w'') ∨ (x = .bool false ∧ Yf wc v40 w'')) (hr.mono (fun e w'' h => h.elim (fun h => ⟨_, h.1, .inl ⟨rfl, h.2⟩⟩) (fun h => ⟨_, h.1, .inr ⟨rfl, h.2⟩⟩))) (fun x wy hx => hK _ _ ?_)
              simp only [Act.put, List.setIfInBounds_toArray, List.set_cons_zero, List.set_cons_succ]
              rcases hx with ⟨rfl, hx⟩ | ⟨rfl, hx⟩
              · refine wpAnyIn_ready (rs := [7]) (by kernel_rfl) (by simp) ?_
                refine AllReadyIn.cons (o := { dst := some 42, op := Op.unOp UnOp.not 4 (Operand.tmp 41), type := 4, pos := "store.go:92", after := #[{ on := 6, ground := Ground.data }], guard := none }) rfl (fun K hK => ?_) AllReadyIn.nil
                refine step_val (v := .bool false) (w' := wy) rfl rfl (by simp [execOp, go_sem, Act.put, Act.eval]) (hK _ _ ?_)
                simp only [Act.put, List.setIfInBounds_toArray, List.set_cons_zero, List.set_cons_succ]
                refine wpAnyIn_done (by kernel_rfl) ?_ _
                exact q1 wc v40 wy hc.2 hx
              · refine wpAnyIn_ready (rs := [7]) (by kernel_rfl) (by simp) ?_
                refine AllReadyIn.cons (o := { dst := some 42, op := Op.unOp UnOp.not 4 (Operand.tmp 41), type := 4, pos := "store.go:92", after := #[{ on := 6, ground := Ground.data }], guard := none }) rfl (fun K hK => ?_) AllReadyIn.nil
                refine step_val (v := .bool true) (w' := wy) rfl rfl (by simp [execOp, go_sem, Act.put, Act.eval]) (hK _ _ ?_)
                simp only [Act.put, List.setIfInBounds_toArray, List.set_cons_zero, List.set_cons_succ]
                refine wpAnyIn_done (by kernel_rfl) ?_ _
                exact q2 wc v40 wy hc.2 hx
        · refine step_enter rfl rfl (f := 35) (args := #[v]) (w' := W) (by simp [execOp, resolve, invoke, go_sem, e35, Act.put, Act.eval]) (hC _ hb) (fun v40 wc hc => hK _ _ ?_)
          simp only [Act.put, List.setIfInBounds_toArray, List.set_cons_zero, List.set_cons_succ]
          refine wpAnyIn_ready (rs := [1]) (by kernel_rfl) (by simp) ?_
          refine AllReadyIn.cons (o := { dst := some 36, op := Op.load 33 (Operand.tmp 8), type := 33, pos := "store.go:92", after := #[], guard := none }) rfl (fun K hK => ?_) (AllReadyIn.nil)
          · refine step_val rfl rfl (exec_ld rfl rfl (hL _ hc.2)) (hK _ _ ?_)
            simp only [Act.put, List.setIfInBounds_toArray, List.set_cons_zero, List.set_cons_succ]
            refine wpAnyIn_ready (rs := [6]) (by kernel_rfl) (by simp) ?_
            refine AllReadyIn.cons (o := { dst := some 41, op := Op.call { callee := Callee.value (Operand.tmp 35), args := #[Operand.tmp 36, Operand.tmp 40], argTypes := #[33, 30] }, type := 4, pos := "store.go:92", after := #[{ on := 0, ground := Ground.data }, { on := 1, ground := Ground.data }, { on := 5, ground := Ground.data }, { on := 5, ground := Ground.chain }], guard := none }) rfl (fun K hK => ?_) (AllReadyIn.nil)
            · obtain ⟨fn, tmps, assign, body, hy, hr⟩ := hY _ _ _ hb hc.1 hc.2 (0 - 1)
              refine step_round rfl rfl (l := l) (fn := fn) (tmps := tmps) (assign := assign) (body := body) (w' := wc) (by simp [execOp, resolve, invoke, go_sem, Act.put, Act.eval, hy]) (R := fun x w'' => (x = .bool true ∧ Yt wc v40 w'') ∨ (x = .bool false ∧ Yf wc v40 w'')) (hr.mono (fun e w'' h => h.elim (fun h => ⟨_, h.1, .inl ⟨rfl, h.2⟩⟩) (fun h => ⟨_, h.1, .inr ⟨rfl, h.2⟩⟩))) (fun x wy hx => hK _ _ ?_)
              simp only [Act.put, List.setIfInBounds_toArray, List.set_cons_zero, List.set_cons_succ]
              rcases hx with ⟨rfl, hx⟩ | ⟨rfl, hx⟩
              · refine wpAnyIn_ready (rs := [7]) (by kernel_rfl) (by simp) ?_
                refine AllReadyIn.cons (o := { dst := some 42, op := Op.unOp UnOp.not 4 (Operand.tmp 41), type := 4, pos := "store.go:92", after := #[{ on := 6, ground := Ground.data }], guard := none }) rfl (fun K hK => ?_) AllReadyIn.nil
                refine step_val (v := .bool false) (w' := wy) rfl rfl (by simp [execOp, go_sem, Act.put, Act.eval]) (hK _ _ ?_)
                simp only [Act.put, List.setIfInBounds_toArray, List.set_cons_zero, List.set_cons_succ]
                refine wpAnyIn_done (by kernel_rfl) ?_ _
                exact q1 wc v40 wy hc.2 hx
              · refine wpAnyIn_ready (rs := [7]) (by kernel_rfl) (by simp) ?_
                refine AllReadyIn.cons (o := { dst := some 42, op := Op.unOp UnOp.not 4 (Operand.tmp 41), type := 4, pos := "store.go:92", after := #[{ on := 6, ground := Ground.data }], guard := none }) rfl (fun K hK => ?_) AllReadyIn.nil
                refine step_val (v := .bool true) (w' := wy) rfl rfl (by simp [execOp, go_sem, Act.put, Act.eval]) (hK _ _ ?_)
                simp only [Act.put, List.setIfInBounds_toArray, List.set_cons_zero, List.set_cons_succ]
                refine wpAnyIn_done (by kernel_rfl) ?_ _
                exact q2 wc v40 wy hc.2 hx
  refine (wpIn_wide (n := 0)).1 ?_
  refine wpIn_mono (key (fun a w => Q .normal a w) hQ1 hQ2) (fun e a w h => ?_)
  cases e with
  | normal => exact h
  | _ => exact False.elim h
end Go.Proofs.YtfbkkcigkpffiaaDoor.St
