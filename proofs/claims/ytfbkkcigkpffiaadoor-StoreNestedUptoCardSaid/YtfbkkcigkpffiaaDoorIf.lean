/- The law StoreNested returns true for every set of bulk at most 1048576. Condition: the digest's two tables and the codes' numbers start as the program's text lays them (the tied card). -/
import Derived.Test.YtfbkkcigkpffiaaDoorIe
import Derived.Test.YtfbkkcigkpffiaaDoorGn
import Derived.Test.YtfbkkcigkpffiaaDoorTie
import Derived.Test.YtfbkkcigkpffiaaDoorCards
namespace Go.Proofs.YtfbkkcigkpffiaaDoor.St
set_option linter.unusedVariables false
open Go.Shelf Go.ChangeShapes Go.WideShapes Go.ChangeAt Go.RowKit Go.Lib Go.Deep
open Go.Proofs.YtfbkkcigkpffiaaDoorW.PrintWords
theorem bulk_one {H : Type} (d : DataW H) : 1 ≤ Rows.uptoBulk d := by
  cases d with
  | lit l => cases l <;> simp [Rows.uptoBulk]
  | nil => simp [Rows.uptoBulk]
  | ptr d => simp [Rows.uptoBulk]
  | slice elems spare => simp [Rows.uptoBulk]
  | agg parts => simp [Rows.uptoBulk]
  | iface t d => simp [Rows.uptoBulk]
  | map entries => simp [Rows.uptoBulk]
  | held h => simp [Rows.uptoBulk]
theorem bulk_part {H : Type} {d : DataW H} {l : List (DataW H)} (h : d ∈ l) : Rows.uptoBulk d ≤ Rows.uptoBulkAll l := by
  induction l with
  | nil => cases h
  | cons x r ih =>
    simp only [Rows.uptoBulkAll]
    cases List.mem_cons.1 h with
    | inl e => subst e; omega
    | inr e => have := ih e; omega
theorem bulk_length {H : Type} (l : List (DataW H)) : l.length ≤ Rows.uptoBulkAll l := by
  induction l with
  | nil => simp [Rows.uptoBulkAll]
  | cons x r ih => have := bulk_one x; simp only [Rows.uptoBulkAll, List.length_cons]; omega
set_option maxRecDepth 100000 in
theorem contract (H : Type) (enc : TypeId × Value → H) (W : World) (base : Nat) (args : Array Value) (ds gs : List (DataW H)) (before : List MemPlace)
    (hval : ∀ (j : Nat) t v, Tryd.f6.params[j]? = some t → args[j]? = some v → Value.okWide Tryd.prog W .any base t v)
    (hW : DataW.Whole enc Tryd.prog Tryd.f6.params.toList Rows.storeNestedSpec.vars false W args.toList ds gs before) (hk : Rows.uptoSmall H (ds ++ gs) = true)
    (hT : Tabs bgs (fun t => rks.getD t 0) W ∧ W.cell? ⟨3, 0, none⟩ = some (.int .i64 0)) (hE : Ers erOf W) (hU : ∃ tb, U8T tb W) :
    Calls Tryd.prog 6 args W fun e W' => ∃ v, e = .returned v ∧ Rows.storeNestedSpec.post enc Tryd.prog Tryd.f6 false true false false W args v W' := by
  have hW' := hW
  have hlt := hW.lt
  obtain ⟨p, q, hA0, hV, rfl, hfz, hnd⟩ := hW
  have hA : DataW.TrodAll enc Tryd.prog W 0 (fun _ => true) true Tryd.f6.params.toList args.toList ds p := hA0
  rw [Tryd.params6] at hA hval
  obtain ⟨v0, d0, rfl, rfl, h0⟩ := trodAll_one hA
  obtain ⟨rfl, rfl⟩ := trodVars_none hV
  have hok := hval 0 53 v0 rfl rfl
  clear hA0 hval
  simp only [List.append_nil] at hW' hlt
  have fin : ∀ W', Below W.heap.size W W' → Rows.storeNestedSpec.post enc Tryd.prog Tryd.f6 false true false false W #[v0] (.bool true) W' := fun W' bel =>
    ⟨_, _, _, [], _, [], hW', trodAll_mk1 (shut_bool Tryd.underlying4 _), trodAll_mk1 (Below.trod (by kernel_rfl) (by kernel_rfl) (of_decide_eq_true (by kernel_rfl)) h0 bel hlt), rfl, bel.frame _, fun h => by cases h⟩
  obtain ⟨tb, hU⟩ := hU
  obtain ⟨x0, x1, x2, y0, y1, y2, n, rfl, rfl, rfl, hx0, hx1, hx2⟩ := Joins.open_agg3 Tryd.underlying53 (by kernel_rfl) (by kernel_rfl) hok h0
  obtain ⟨nn, e2, _, _⟩ := DataW.trod_int Tryd.underlying3 hx2
  obtain rfl : x2 = .int .i64 nn := by simpa using e2
  have walk : ∀ (A G : Option Addr) (encs : List (List Int)) (gone : List Int) (cA cG : Nat), SetAt W A G encs gone → SetOk encs gone → Calls Tryd.prog 6 #[.agg #[.slice A encs.length cA, .slice G gone.length cG, .int .i64 nn]] W fun e w' => e = .returned (.bool true) ∧ Below W.heap.size W w' :=
    fun A G encs gone cA cG h1 h2 => nested_walk bgs _ tb erOf erOf_zero encs gone nn A G cA cG W hT.1 hU hE h1 h2
  have hbd : Rows.uptoBulk y0.1 ≤ 1048576 ∧ Rows.uptoBulk y1.1 ≤ 1048576 := by
    have hb : Rows.uptoBulkAll [DataW.agg [y0.1, y1.1, y2.1]] ≤ 1048576 := by
      have := hk
      rw [List.append_nil] at this
      exact of_decide_eq_true this
    simp only [Rows.uptoBulkAll, Rows.uptoBulk] at hb
    omega
  have hgone : ∃ (G : Option Addr) (gone : List Int) (cG : Nat), x1 = .slice G gone.length cG ∧ gone.length ≤ 1048576 ∧ ∀ i (h : i < gone.length), ∃ ad, G = some ad ∧ W.cell? (ad.add i) = some (.int .i64 gone[i]) := by
    rcases open_ints Tryd.underlying51 Tryd.underlying3 (by kernel_rfl) hx1 with ⟨hc, _⟩ | ⟨a, len, cap, zs, hc, _, hlc, hcm, hz, hy, hcell, _⟩
    · exact ⟨none, [], 0, by simpa using hc, by simp, fun i h => by cases h⟩
    · simp only [if_true] at hz
      have hl : (zs.take len).length = len := by rw [List.length_take]; omega
      refine ⟨some a, zs.take len, cap, by rw [hl]; simpa using hc, ?_, fun i h => ⟨a, rfl, ?_⟩⟩
      · have hb := hbd.2
        rw [congrArg Prod.fst hy] at hb
        simp only [Rows.uptoBulk] at hb
        have := bulk_length (H := H) (lits .i64 (zs.take len))
        have hll : (lits (H := H) .i64 (zs.take len)).length = len := by simp [lits]; omega
        omega
      · rw [hl] at h
        rw [List.getElem_take]
        have := hcell i (by omega)
        rwa [List.getD_eq_getElem?_getD, List.getElem?_eq_getElem (by omega)] at this
  have hencs : ∃ (A : Option Addr) (encs : List (List Int)) (cA : Nat), x0 = .slice A encs.length cA ∧ encs.length ≤ 1048576 ∧ (∀ b ∈ encs, b.length ≤ 1048576) ∧ (∀ b ∈ encs, ∀ y ∈ b, Byte y) ∧
      ∀ i (h : i < encs.length), ∃ ad Ai ci, A = some ad ∧ W.cell? (ad.add i) = some (.slice Ai encs[i].length ci) ∧ encs[i].length ≤ ci ∧ Kd.C kB W Ai encs[i].length encs[i] := by
    rcases open_int_rows Tryd.underlying50 Tryd.underlying30 Tryd.underlying5 (by kernel_rfl) (by kernel_rfl) hx0 with ⟨hc, _⟩ | ⟨a, len, cap, A, L, C, Z, hc, hab, hlc, hcm, hy, hr⟩
    · exact ⟨none, [], 0, by simpa using hc, by simp, by simp, by simp, fun i h => by cases h⟩
    · obtain ⟨e4, e3⟩ := encs_in hlc hr
      have hb := hbd.1
      rw [congrArg Prod.fst hy] at hb
      simp only [Rows.uptoBulk] at hb
      refine ⟨some a, encsOf len L Z, cap, by rw [encsOf_len]; simpa using hc, ?_, fun b hbm => ?_, e3, e4⟩
      · rw [encsOf_len]
        have := bulk_length (H := H) ((List.range len).map fun r => intRow (H := H) .u8 (A r) (L r) (Z r))
        simp only [List.length_map, List.length_range] at this
        omega
      · obtain ⟨r, hrr, rfl⟩ := List.mem_map.1 hbm
        have hrl := List.mem_range.1 hrr
        obtain ⟨_, h1, h2, h3, _, h5, _⟩ := hr r (by omega)
        rw [List.length_take]
        have hm := bulk_part (List.mem_map_of_mem (f := fun r => intRow (H := H) .u8 (A r) (L r) (Z r)) hrr)
        have hrow : L r ≤ Rows.uptoBulk (intRow (H := H) .u8 (A r) (L r) (Z r)) := by
          unfold intRow
          cases hA : A r with
          | none => have := h5 hA; omega
          | some a' =>
            simp only [Rows.uptoBulk]
            have := bulk_length (H := H) (lits .u8 (List.take (L r) (Z r)))
            have hll : (lits (H := H) .u8 (List.take (L r) (Z r))).length = L r := by simp [lits, List.length_take]; omega
            omega
        omega
  obtain ⟨G, gone, cG, rfl, hg1, hg2⟩ := hgone
  obtain ⟨A, encs, cA, rfl, he1, he2, he3, he4⟩ := hencs
  refine (walk A G encs gone cA cG ⟨he4, hg2⟩ ⟨he3, he2, he1, hg1⟩).mono fun e W' ⟨he, bel⟩ => ?_
  subst he
  exact ⟨_, rfl, fin W' bel⟩
theorem witness_row (os : Os) {H : Type} (enc : TypeId × Value → H) :
    (Rows.OpenSpec.upto Rows.storeNestedSpec).preRow enc Tryd.prog Tryd.f6 Rows.storeNestedUptoRow.domain false Rows.storeNestedUptoRow.laid ((laidWorld os).forCall (fun _ _ => 0) ⟨#[], #[.agg #[.slice none 0 0, .slice none 0 0, .int .i64 0]], []⟩).memory #[.agg #[.slice none 0 0, .slice none 0 0, .int .i64 0]] := by
  have hw : (DataW.whole enc Tryd.prog ((laidWorld os).forCall (fun _ _ => 0) ⟨#[], #[.agg #[.slice none 0 0, .slice none 0 0, .int .i64 0]], []⟩).memory Tryd.f6.params.toList Rows.storeNestedSpec.vars false #[Value.agg #[.slice none 0 0, .slice none 0 0, .int .i64 0]].toList 8).map (fun x => (x.1, x.2.1)) =
      some ([.agg [.nil, .nil, .lit (.int .i64 0)]], []) := by kernel_rfl
  obtain ⟨⟨x1, x2, x3⟩, hx, hx1⟩ := Option.map_eq_some_iff.1 hw
  simp only [Prod.mk.injEq] at hx1
  obtain ⟨rfl, rfl⟩ := hx1
  exact OpenSpec.preRow_of_cond 8 hx (by kernel_rfl) (fun k hk => by cases hk; kernel_rfl) (by kernel_rfl) (laid_met os _)

set_option maxRecDepth 100000 in
set_option maxHeartbeats 2000000 in
theorem lifted (os : Os) (started : os.Started) (H : Type) (enc : TypeId × Value → H) (F : Stop.Interp) :
    ReturnsInHanded {} Tryd.checked os 6 .any ((Rows.OpenSpec.upto Rows.storeNestedSpec).preRow enc Tryd.prog Tryd.f6 Rows.storeNestedUptoRow.domain false Rows.storeNestedUptoRow.laid) (((Rows.OpenSpec.upto Rows.storeNestedSpec).at F).post enc Tryd.prog Tryd.f6 false true false false) := by
  refine returnsInHanded_of_row (C := Tryd.checked) (s := Rows.OpenSpec.upto Rows.storeNestedSpec) own started (by kernel_rfl) Tryd.func6
    (witness_row_atRef (enc := enc) (C := Tryd.checked) false (laidWorld os) #[.agg #[.slice none 0 0, .slice none 0 0, .int .i64 0]] rfl (by kernel_rfl) (by kernel_rfl) (by kernel_rfl) (witness_row os enc)) ?_
  intro W base args ds gs before hval hW _ hcond _ hL hsh _
  exact contract H enc W base args ds gs before hval hW (hcond _ rfl) (tabs_of_laid hL) (ers_of_laid hL) (u8t_of_shaped hsh)

theorem said : Rows.StoreNestedUptoSaid :=
  OpenClaim.holds_of_cond 6 Tryd.f6 rfl rfl rfl rfl rfl rfl rfl ⟨rfl, rfl, rfl, rfl, rfl⟩ rfl rfl rfl rfl rfl (by kernel_rfl) Tryd.func6 (by kernel_rfl)
    (of_decide_eq_true (by kernel_rfl)) (by unfold Func.isWrapper; first | (rw [if_pos (by decide +kernel)]; kernel_rfl) | (rw [if_neg (by decide +kernel)]; exact ⟨rfl, rfl⟩))
    (fun os started H enc _ F => by rw [OpenClaim.pre_eq_preRow]; exact lifted os started H enc F)

theorem plain (f : FuncId) (fn : Func) (hf : Tryd.pinned.checked.prog.funcNamed "satchel/satchellaw4.StoreNested" = some f) (hfn : Tryd.pinned.checked.prog.funcs[f]? = some fn) :
    true = Tryd.pinned.checked.prog.looks [] ∧ ∀ (j : Nat) t, fn.params[j]? = some t → Tryd.pinned.checked.prog.wantsStandIn t = false := by
  obtain rfl : f = 6 := Option.some.inj ((show Tryd.prog.funcNamed "satchel/satchellaw4.StoreNested" = some 6 by kernel_rfl).symm.trans hf) |>.symm
  obtain rfl : fn = Tryd.f6 := (Option.some.inj (Tryd.func6.symm.trans hfn)).symm
  refine ⟨by kernel_rfl, fun j t ht => ?_⟩
  rw [Tryd.params6] at ht
  obtain rfl : t = 53 := by simpa using Array.mem_of_getElem? ht
  exact (show Tryd.prog.wantsStandIn 53 = false by kernel_rfl)
end Go.Proofs.YtfbkkcigkpffiaaDoor.St
namespace Go.Proofs.YtfbkkcigkpffiaaDoor
theorem storeNestedUpto_card : Rows.StoreNestedUptoCardSaid :=
  Claim7.holds_tied_plain_at .later [] _ _ _ _ St.said (fun _ h => by cases h) (by kernel_rfl) (fun _ h => by cases h) storeNestedUpto_row_tie rfl ⟨rfl, rfl⟩ (by kernel_rfl) rfl St.plain (by kernel_rfl)
#print axioms storeNestedUpto_card
end Go.Proofs.YtfbkkcigkpffiaaDoor
