/- A store in memory; the walks of its New, Has, Len. -/
import Derived.Test.YtfbkkcigkpffiaaDoorSdI
namespace Go.Proofs.YtfbkkcigkpffiaaDoor.St
open Go Go.Lib Go.RowKit Go.ChangeMaps Go.Proofs.YtfbkkcigkpffiaaDoorW.PrintWords Go.Proofs.YtfbkkcigkpffiaaDoorW.PrintLast Go.Proofs.YtfbkkcigkpffiaaDoorW.PrintMore Go.Proofs.YtfbkkcigkpffiaaDoor.PStoreMany
set_option linter.unusedVariables false
set_option linter.unusedSimpArgs false
/-- What a store holds: encodings by ids, in the order in which they came. -/
abbrev Its := List (By × List Int)
def iget : Its → By → Option (List Int)
  | [], _ => none
  | (a, v) :: r, k => if a = k then some v else iget r k
def iput : Its → By → List Int → Its
  | [], k, v => [(k, v)]
  | (a, x) :: r, k, v => if a = k then (a, v) :: r else (a, x) :: iput r k v
def idel : Its → By → Its
  | [], _ => []
  | (a, x) :: r, k => if a = k then r else (a, x) :: idel r k
/-- A value is bytes. -/
def IsB (w : World) (v : Value) (b : List Int) : Prop := ∃ A c, v = .slice A b.length c ∧ b.length ≤ c ∧ Kd.C kB w A b.length b
def Same (w : World) : KV → Its → Prop
  | [], [] => True
  | (a, v) :: r, (d, b) :: s => a = d ∧ IsB w v b ∧ Same w r s
  | _, _ => False
theorem Same.len {w : World} : ∀ {kv : KV} {its : Its}, Same w kv its → kv.length = its.length
  | [], [], _ => rfl
  | (a, v) :: r, (d, b) :: s, h => by simp [Same.len h.2.2]
  | [], _ :: _, h => h.elim
  | _ :: _, [], h => h.elim
theorem Same.imp {w w' : World} (hB : ∀ v b, IsB w v b → IsB w' v b) : ∀ {kv : KV} {its : Its}, Same w kv its → Same w' kv its
  | [], [], _ => trivial
  | (a, v) :: r, (d, b) :: s, h => ⟨h.1, hB _ _ h.2.1, h.2.2.imp hB⟩
  | [], _ :: _, h => h.elim
  | _ :: _, [], h => h.elim
theorem Same.get {w : World} (k : By) : ∀ {kv : KV} {its : Its}, Same w kv its → (iget its k = none ∧ kget kv k = none) ∨ ∃ v b, iget its k = some b ∧ kget kv k = some v ∧ IsB w v b
  | [], [], _ => .inl ⟨rfl, rfl⟩
  | (a, v) :: r, (d, b) :: s, h => by
    obtain ⟨rfl, h1, h2⟩ := h
    unfold iget kget
    by_cases e : a = k
    · rw [if_pos e, if_pos e]
      exact .inr ⟨v, b, rfl, rfl, h1⟩
    · rw [if_neg e, if_neg e]
      exact Same.get k h2
  | [], _ :: _, h => h.elim
  | _ :: _, [], h => h.elim
theorem Same.put {w : World} (k : By) (v : Value) (b : List Int) (hv : IsB w v b) : ∀ {kv : KV} {its : Its}, Same w kv its → Same w (kput kv k v) (iput its k b)
  | [], [], _ => ⟨rfl, hv, trivial⟩
  | (a, x) :: r, (d, y) :: s, h => by
    obtain ⟨rfl, h1, h2⟩ := h
    unfold iput kput
    by_cases e : a = k
    · rw [if_pos e, if_pos e]; exact ⟨rfl, hv, h2⟩
    · rw [if_neg e, if_neg e]; exact ⟨rfl, h1, Same.put k v b hv h2⟩
  | [], _ :: _, h => h.elim
  | _ :: _, [], h => h.elim
theorem Same.del {w : World} (k : By) : ∀ {kv : KV} {its : Its}, Same w kv its → Same w (kdel kv k) (idel its k)
  | [], [], _ => trivial
  | (a, x) :: r, (d, y) :: s, h => by
    obtain ⟨rfl, h1, h2⟩ := h
    unfold idel kdel
    by_cases e : a = k
    · rw [if_pos e, if_pos e]; exact h2
    · rw [if_neg e, if_neg e]; exact ⟨rfl, h1, Same.del k h2⟩
  | [], _ :: _, h => h.elim
  | _ :: _, [], h => h.elim
theorem IsB.below {w w' : World} {v : Value} {b : List Int} (h : IsB w v b) (hb : Below w.heap.size w w') : IsB w' v b := by
  obtain ⟨A, c, h1, h2, h3⟩ := h
  exact ⟨A, c, h1, h2, Kd.C_below h3 hb⟩
/-- Cells don't lie in a map's block. -/
theorem IMap.ne {w : World} {km : Nat} {kv : KV} (h : IMap w km kv) {p : Addr} {v : Value} (hp : w.cell? p = some v) : p.block ≠ km := by
  rintro rfl
  obtain ⟨es, clock, hb, _⟩ := h
  unfold World.cell? at hp
  rw [hb] at hp
  cases hp
theorem C_but {w w' : World} {km : Nat} {kv : KV} (hm : IMap w km kv) (hb : But km w w') {A : Option Addr} {b : List Int} (h : Kd.C kB w A b.length b) : Kd.C kB w' A b.length b :=
  ⟨h.1, h.2.1, fun hp => by
    obtain ⟨ad, ha, hc⟩ := h.2.2 hp
    refine ⟨ad, ha, fun j x hj => ?_⟩
    obtain ⟨cs, h1, h2, h3⟩ := hc j x hj
    exact ⟨cs, h1, h2, fun i v hv => cell_but hb (h3 i v hv) (hm.ne (h3 i v hv))⟩⟩
theorem IsB.but {w w' : World} {km : Nat} {kv : KV} (hm : IMap w km kv) (hb : But km w w') {v : Value} {b : List Int} (h : IsB w v b) : IsB w' v b := by
  obtain ⟨A, c, h1, h2, h3⟩ := h
  exact ⟨A, c, h1, h2, C_but hm hb h3⟩
/-- A store. -/
structure StoreAt (w : World) (ks km : Nat) (its : Its) : Prop where
  blk : Blk w ks 72 [.map (some km)]
  map : ∃ kv, IMap w km kv ∧ Same w kv its
theorem StoreAt.below {w w' : World} {ks km : Nat} {its : Its} (h : StoreAt w ks km its) (hb : Below w.heap.size w w') : StoreAt w' ks km its :=
  ⟨h.blk.below hb, by
    obtain ⟨kv, h1, h2⟩ := h.map
    exact ⟨kv, h1.below hb, h2.imp (fun v b hv => hv.below hb)⟩⟩
/-- Another store's map has been written. -/
theorem StoreAt.other {w w' : World} {ks km km' : Nat} {its : Its} {kv' : KV} (h : StoreAt w ks km its) (hm : IMap w km' kv') (hne : km ≠ km') (hb : But km' w w') : StoreAt w' ks km its := by
  obtain ⟨kv, h1, h2⟩ := h.map
  refine ⟨?_, kv, h1.of_block (hb.block km h1.lt hne), h2.imp (fun v b hv => hv.but hm hb)⟩
  exact h.blk.but hb (hm.ne (show w.cell? ⟨ks, 0, none⟩ = some _ from h.blk.cell 0))
theorem quiet_ld {P : Program} {w : World} {K : Act → Prop} {a : Act} {o : Oper} (ty : TypeId) (x : Operand) (ho : o.op = .load ty x) (ad : Addr) (hx : a.eval x = .pointer (some ad)) (v : Value)
    (hl : ∀ w', Below w.heap.size w w' → (Instr.loadAt ty (.pointer (some ad))).run P w' = .ok v w') (hk : K (a.put o.dst v)) : o.quiet P a (fun w' => ∃ i : Cls w, w' = i.at) K :=
  ⟨v, fun w' ⟨i, hi⟩ => by
    unfold Oper.quietAt execOp
    subst hi
    simp only [ho, hx, Sem.run_bind, hl _ i.below, Result.andThen_ok, Sem.run_pure]
    exact ⟨rfl, rfl⟩, hk⟩
/-- A look-up in such a region. -/
theorem quiet_look {P : Program} {w : World} {K : Act → Prop} {a : Act} {o : Oper} (ty : TypeId) (x y : Operand) (c : Bool) (ho : o.op = .lookup ty x y c) (m kk : Value) (hx : a.eval x = m) (hy : a.eval y = kk) (v : Value)
    (hl : ∀ w', Below w.heap.size w w' → (Instr.lookup ty m kk c).run P w' = .ok v w') (hk : K (a.put o.dst v)) : o.quiet P a (fun w' => ∃ i : Cls w, w' = i.at) K :=
  ⟨v, fun w' ⟨i, hi⟩ => by
    unfold Oper.quietAt execOp
    subst hi
    simp only [ho, hx, hy, Sem.run_bind, hl _ i.below, Result.andThen_ok, Sem.run_pure]
    exact ⟨rfl, rfl⟩, hk⟩
set_option maxRecDepth 100000 in
set_option maxHeartbeats 4000000 in
theorem snew_walk (w : World) : Calls Tryd.prog 9 #[] w fun e w' => ∃ ks km, e = .returned (.pointer (some ⟨ks, 0, none⟩)) ∧ w.heap.size ≤ ks ∧ w.heap.size ≤ km ∧ StoreAt w' ks km [] ∧ Below w.heap.size w w' := by
  have hmm := @run_makeMap Tryd.prog
  have HM := Lib.hid (IMap.made w)
  have HB1 := Lib.hid (show Below w.heap.size w (w.alloc (.map #[] 0)) from below_alloc (Below.refl _ _) _)
  go_enter Tryd.func9, Tryd.ntmps9
  go_wp2_with fail
  have HS := Lib.hid (Blk.new (w.alloc (.map #[] 0)) 72 [.map (some w.heap.size)])
  have HB2 := Lib.hid (show Below (w.alloc (.map #[] 0)).heap.size (w.alloc (.map #[] 0)) ((w.alloc (.map #[] 0)).alloc (.cells [Value.map (some w.heap.size)].toArray 72)) from below_alloc (Below.refl _ _) _)
  go_ret
  have hsz : (w.alloc (.map #[] 0)).heap.size = w.heap.size + 1 := by simp
  have hbl := HS.out
  rw [hsz] at hbl
  exact ⟨w.heap.size + 1, w.heap.size, rfl, by omega, Nat.le_refl _, ⟨hbl, [], HM.out.below HB2.out, trivial⟩, HB1.out.trans (HB2.out.mono HB1.out.size)⟩
theorem run_mlen {w : World} {km : Nat} {kv : KV} (h : IMap w km kv) (ty : TypeId) : (Builtin.len_ #[70] ty #[.map (some km)]).run Tryd.prog w = .ok (.int .i64 (kv.length : Int)) w := by
  obtain ⟨es, clock, hb, hm, _⟩ := h
  have hl : es.size = kv.length := by
    have := congrArg List.length hm
    simpa using this
  simp [Builtin.len_, MapKept.run_getObj_map (P := Tryd.prog) hb, Result.andThen, hl, goInt]
set_option maxRecDepth 100000 in
set_option maxHeartbeats 4000000 in
theorem len_walk (ks km : Nat) (its : Its) (w : World) (h : StoreAt w ks km its) :
    Calls Tryd.prog 14 #[.pointer (some ⟨ks, 0, none⟩)] w fun e w' => e = .returned (.int .i64 (its.length : Int)) ∧ w = w' := by
  have c0 : w.cell? ⟨ks, 0, none⟩ = some (.map (some km)) := h.blk.cell 0
  obtain ⟨kv, hm, hs⟩ := h.map
  have hln := run_mlen hm 3
  rw [hs.len] at hln
  obtain ⟨n, hn⟩ : ∃ n, its.length = n := ⟨_, rfl⟩
  rw [hn] at hln ⊢
  clear h hm hs hn
  go_enter Tryd.func14, Tryd.ntmps14
  go_wp2_with fail
  go_ret
  exact ⟨rfl, rfl⟩
theorem IsB.of_R {w : World} {B : Nat} {ok : Nat → Prop} {v : Value} {b : List Int} (h : Kd.R kB 5 w B ok v b) : IsB w v b := by
  obtain ⟨A, c, rfl⟩ := Kd.R_slice h
  obtain ⟨_, h2, h3⟩ := Kd.R_reads' h
  exact ⟨A, c, rfl, h2, h3⟩
theorem R_lit0 (w : World) : Kd.R kB 5 (w.alloc (.cells #[] 5)) w.heap.size (fun k => w.heap.size ≤ k) (.slice (some ⟨w.heap.size, 0, none⟩) 0 0) [] := by
  refine ⟨fun k hk => ?_, [], ?_, ⟨by simp, fun j p h => by simp at h⟩⟩
  · have : w.heap.size = k := by simpa [Value.ownBlock] using hk
    omega
  · have h2 := World.ownsRow_lit (base := w.heap.size) (e := 5) (size := 1) w #[] 0 (Nat.le_refl _) (by decide) (by simp)
    exact h2
theorem nil_slice (n c : Nat) (W : World) : (binOp .eql 30 (.slice none n c) (.slice none 0 0)).run Tryd.prog W = .ok (.bool true) W := by kernel_rfl
theorem some_slice (ad : Addr) (n c : Nat) (W : World) : (binOp .eql 30 (.slice (some ad) n c) (.slice none 0 0)).run Tryd.prog W = .ok (.bool false) W := by kernel_rfl
set_option maxRecDepth 100000 in
set_option maxHeartbeats 4000000 in
/-- bytes.Clone. -/
theorem clone_walk (b : List Int) (A : Option Addr) (c : Nat) (w : World) (hC : Kd.C kB w A b.length b) (hl : b.length ≤ 1000000000) :
    Calls Tryd.prog 35 #[.slice A b.length c] w fun e w' => ∃ v, e = .returned v ∧ IsB w' v b ∧ (∀ k, v.ownBlock = some k → w.heap.size ≤ k) ∧ Below w.heap.size w w' := by
  cases A with
  | none =>
    have hb0 : b = [] := by
      cases b with
      | nil => rfl
      | cons x r =>
        obtain ⟨ad, h, _⟩ := hC.2.2 (by simp)
        cases h
    subst hb0
    have HI := Lib.hid (show IsB w (.slice none 0 0) [] from ⟨none, 0, rfl, Nat.le_refl _, hC⟩)
    have hq := nil_slice 0 c
    clear hC
    go_enter Tryd.func35, Tryd.ntmps35
    go_wp2_with fail
    go_ret
    exact ⟨_, rfl, HI.out, fun k hk => by simp [Value.ownBlock] at hk, Below.refl _ _⟩
  | some ad =>
    have HC := Lib.hid hC
    have HR0 := Lib.hid (R_lit0 w)
    have HB0 := Lib.hid (show Below w.heap.size w (w.alloc (.cells #[] 5)) from below_alloc (Below.refl _ _) _)
    obtain ⟨N, hN⟩ : ∃ N, b.length = N := ⟨_, rfl⟩
    have HN := Lib.hid hN
    rw [hN] at hl ⊢
    have hq := some_slice ad N c
    clear hC hN
    go_enter Tryd.func35, Tryd.ntmps35
    go_wp2_with (at_builtin; refine Kd.R_append_rows kB (Rr := fun x cs => cs = [Value.int .u8 x]) (w0 := w) (W := (w.alloc (.cells #[] 5))) w.heap.size rfl (.tmp 5) (.tmp 6) 30 5 (.int .u8 0) 1 rfl Tryd.underlying30 info5 rfl (by decide) (by decide) _ [] b (some ad) N c (fun k => w.heap.size ≤ k) (fun _ => False) rfl rfl HR0.out (HN.out ▸ (Kd.C_below HC.out HB0.out)) (fun _ _ h => h) (fun _ hk => hk.elim) (fun k hk => Nat.le_trans HB0.out.size hk) HB0.out HB0.out.size (by simp; omega) ?_; intro v1 w1 hr1 hb1 hg1 hat1; have HR1 := Lib.hid hr1; have HB1 := Lib.hid hb1; clear hr1 hb1 hg1 hat1)
    rw [List.nil_append] at HR1
    go_ret
    exact ⟨_, rfl, IsB.of_R HR1.out, fun k hk => HR1.out.1 k hk, HB1.out⟩
set_option maxRecDepth 100000 in
set_option maxHeartbeats 4000000 in
theorem has_walk (ks km : Nat) (its : Its) (d : By) (hd : d.length = 32) (w : World) (h : StoreAt w ks km its) :
    Calls Tryd.prog 12 #[.pointer (some ⟨ks, 0, none⟩), vId d] w fun e w' => e = .returned (.bool (iget its d).isSome) ∧ Below w.heap.size w w' := by
  obtain ⟨w1, hw1⟩ : ∃ w1, w.alloc (.cells (cl d).toArray 33) = w1 := ⟨_, rfl⟩
  have HW1 := Lib.hid hw1
  have HB1 := Lib.hid (show Below w.heap.size w w1 from hw1 ▸ below_alloc (Below.refl _ _) _)
  have HI := Lib.hid (show Blk w1 w.heap.size 33 (cl d) from hw1 ▸ Blk.new w 33 (cl d))
  have HS := Lib.hid (h.below HB1.out)
  have c0 : ∀ q : Cls w1, q.at.cell? ⟨ks, 0, none⟩ = some (.map (some km)) := fun q => q.cell (HS.out.blk.cell 0)
  have HL1 := Lib.hid (fun w' (hb : Below w1.heap.size w1 w') => (HI.out.below hb).loads 33 Tryd.isAgg33 (fun W => by rw [List.length_map, hd]; exact Tryd.sizeOf33 W))
  obtain ⟨v, hv⟩ : ∃ v, ∀ w', Below w1.heap.size w1 w' → (Instr.lookup 70 (.map (some km)) (vId d) true).run Tryd.prog w' = .ok (.tuple #[v, .bool (iget its d).isSome]) w' := by
    obtain ⟨kv, hm, hs⟩ := HS.out.map
    refine ⟨(kget kv d).getD (.slice none 0 0), fun w' hb => ?_⟩
    rw [(hm.below hb).lookup hd true]
    rcases hs.get d with ⟨h1, h2⟩ | ⟨v, b, h1, h2, _⟩ <;> rw [h1, h2] <;> rfl
  have HLK := Lib.hid hv
  obtain ⟨x, hx⟩ : ∃ x, (iget its d).isSome = x := ⟨_, rfl⟩
  rw [hx] at HLK ⊢
  clear h hw1 hv hx
  go_enter Tryd.func12, Tryd.ntmps12
  go_upto_region 1 with (fail)
  rw [HW1.out]
  refine wp_region_cls (by kernel_rfl) (by kernel_rfl) ?_
  repeat (first | go_big_quiet_skip | (go_big_quiet_want; refine quiet_ld 33 (.tmp 3) rfl ⟨w.heap.size, 0, none⟩ rfl (vId d) HL1.out ?_; (try simp only [Act.put, List.setIfInBounds_toArray, List.set_cons_zero, List.set_cons_succ]); go_big_quiet_on) | (go_big_quiet_want; refine quiet_look 70 (.tmp 11) (.tmp 12) true rfl (.map (some km)) (vId d) rfl rfl (.tuple #[v, .bool x]) HLK.out ?_; (try simp only [Act.put, List.setIfInBounds_toArray, List.set_cons_zero, List.set_cons_succ]); go_big_quiet_on) | go_big_quiet_step (fail))
  refine wpQuiet_nil ?_
  rintro wy ⟨q, rfl⟩
  have HB := Lib.hid (HB1.out.trans (q.below.mono HB1.out.size))
  clear c0
  go_wp2_with fail
  go_ret
  exact ⟨rfl, HB.out⟩
end Go.Proofs.YtfbkkcigkpffiaaDoor.St
