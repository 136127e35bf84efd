/- What the walk of the law leans on: the merge of a list by name, contracts in its words. -/
import Derived.Test.YtkjaffnplehhaaaRgJ
import Derived.Deep.RegionHeld3
namespace Go.Proofs.Ytkjaffnplehhaaa.Rg
open Go Go.Lib Go.RowKit Go.ChangeMaps Go.Proofs.YtkjaffnplehhaaaW.PrintWords Go.Proofs.YtkjaffnplehhaaaW.PrintLast Go.Proofs.YtkjaffnplehhaaaW.PrintMore Go.Proofs.Ytkjaffnplehhaaa.PRefsMerge Go.Sort
set_option linter.unusedVariables false
set_option linter.unusedSimpArgs false
def mg (l : List Stp) : List Stp := l.foldl ins []
theorem mg_is (l : List Stp) : IsMerge l (mg l) := fold_merge l
theorem mg_eq {l m : List Stp} (h : IsMerge l m) : m = mg l := h.same (mg_is l) (fun _ => Iff.rfl)
theorem mg_same {l l' : List Stp} (h : ∀ x, x ∈ l ↔ x ∈ l') : mg l = mg l' := (mg_is l).same (mg_is l') h
theorem fold_len : ∀ (l m : List Stp), (l.foldl ins m).length ≤ m.length + l.length
  | [], m => Nat.le_refl _
  | x :: l, m => by
    have h1 := fold_len l (ins m x)
    have h2 := ins_len m x
    rw [List.foldl_cons, List.length_cons]
    omega
theorem mg_len (l : List Stp) : (mg l).length ≤ l.length := by
  have := fold_len l []
  unfold mg
  simpa using this
theorem mg_swap (a b : List Stp) : mg (b ++ a) = mg (a ++ b) := mg_same (fun x => by simp [or_comm])
theorem mg_self (l : List Stp) : mg (mg l ++ mg l) = mg l := by
  have h : IsMerge (mg l ++ mg l) (mg l) := (mg_is l).self.of_iff (fun x => by simp)
  exact (mg_eq h).symm
theorem mg_pre (a c : List Stp) : mg (mg a ++ c) = mg (a ++ c) := mg_eq ((mg_is a).pre (mg_is (mg a ++ c)))
theorem mg_three (a b c : List Stp) : mg (a ++ mg (c ++ b)) = mg (mg (a ++ b) ++ c) := by
  rw [mg_pre, mg_swap (mg (c ++ b)) a, mg_pre]
  exact mg_same (fun x => by simp only [List.mem_append]; exact ⟨by rintro ((h | h) | h) <;> simp [h], by rintro ((h | h) | h) <;> simp [h]⟩)
theorem mg_one : mg ([⟨[97], zeroId, 1⟩] ++ [⟨[97], zeroId, 2⟩]) = [⟨[97], zeroId, 2⟩] := by decide
/-- A list of stamps of one's own, a mark behind its end. -/
def Marked (w : World) (g c : Nat) (l : List Stp) : Prop := l.length + 1 ≤ c ∧ Kd.C kSt w (some ⟨g, 0, none⟩) l.length l ∧ StAt w ⟨g, l.length * 34, none⟩ markSt
theorem Marked.below {w w' : World} {g c : Nat} {l : List Stp} (h : Marked w g c l) (hb : Below w.heap.size w w') : Marked w' g c l := ⟨h.1, Kd.C_below h.2.1 hb, h.2.2.below hb⟩
theorem Marked.of_R {w : World} {B g c : Nat} {ok : Nat → Prop} {l : List Stp} (hc : l.length + 1 ≤ c) (h : Kd.R kSt 32 w B ok (.slice (some ⟨g, 0, none⟩) (l.length + 1) c) (l ++ [markSt])) : Marked w g c l := by
  obtain ⟨g', cap', he', _, _, _, hrow⟩ := R_row h (b := g) (by simp [Value.ownBlock])
  injection he' with e1 _ _
  have e2 : g = g' := by injection e1 with e1; injection e1
  subst e2
  have hok := R_oks h
  have hst := hrow.st hok l.length (by simp)
  have htk := hrow.take l.length
  rw [List.take_left' rfl] at htk
  have hmx := (Kd.R_reads' h).2.2.2.1
  rw [List.length_append] at hmx
  refine ⟨hc, htk.C (fun x hx => hok x (List.mem_append_left _ hx)) (by omega), ?_⟩
  have : (l ++ [markSt])[l.length] = markSt := by simp
  rwa [this] at hst
/-- The law's stamps, wherever it is called. -/
theorem stamps4 (l : List Stp) (A : Option Addr) (c : Nat) (w : World) (hC : Kd.C kSt w A l.length l) (hl : l.length ≤ 1000000000) :
    Calls Try.prog 4 #[.slice A l.length c] w fun e w' => ∃ g cm, e = .returned (.slice (some ⟨g, 0, none⟩) l.length cm) ∧ Marked w' g cm l ∧ Kd.R kSt 32 w' w.heap.size (fun k => w.heap.size ≤ k) (.slice (some ⟨g, 0, none⟩) l.length cm) l ∧ Below w.heap.size w w' :=
  (stamps_walk l A c w hC hl).mono fun e w' ⟨g, cm, h1, h2, h3, h4⟩ => ⟨g, cm, h1, Marked.of_R h2 h3, by
    have h5 := Kd.R_take h3 (m := l.length) (by simp)
    rwa [List.take_left' rfl] at h5, h4⟩
theorem merge5 (l m : List Stp) (A B : Option Addr) (c d : Nat) (w : World) (hA : Kd.C kSt w A l.length l) (hB : Kd.C kSt w B m.length m) (hl : l.length + m.length ≤ 1000000000) :
    Calls Try.prog 5 #[.slice A l.length c, .slice B m.length d] w fun e w' => ∃ g cap, e = .returned (sl g (mg (l ++ m)).length cap) ∧ RowAt w' g (mg (l ++ m)) ∧ Kd.C kSt w' (some ⟨g, 0, none⟩) (mg (l ++ m)).length (mg (l ++ m)) ∧ (∀ x ∈ mg (l ++ m), x.Ok) ∧ g < w'.heap.size ∧ Below w.heap.size w w' :=
  (rmerge_walk l m A B c d w hA hB hl).mono fun e w' ⟨g, k, cap, h1, h2, h3, h4, _, h6, _, h8⟩ => by
    have e1 := mg_eq h2
    subst e1
    have hk := mg_len (l ++ m)
    rw [List.length_append] at hk
    exact ⟨g, cap, h1, h3, h3.C h4 (by omega), h4, h6, h8⟩
theorem merge9 (l m : List Stp) (A B : Option Addr) (c d : Nat) (w : World) (hA : Kd.C kSt w A l.length l) (hB : Kd.C kSt w B m.length m) (hl : l.length + m.length ≤ 1000000000) :
    Calls Try.prog 9 #[.slice A l.length c, .slice B m.length d] w fun e w' => ∃ A c, e = .returned (.slice A (mg (l ++ m)).length c) ∧ Kd.C kSt w' A (mg (l ++ m)).length (mg (l ++ m)) ∧ Below w.heap.size w w' :=
  (smerge_walk l m A B c d w hA hB hl).mono fun e w' ⟨A, c, k, h1, h2, h3, h4⟩ => by
    have e1 := mg_eq h2
    subst e1
    exact ⟨A, c, h1, h3, h4⟩
theorem eq6 (l : List Stp) (A B : Option Addr) (c d : Nat) (w : World) (hA : Kd.C kSt w A l.length l) (hB : Kd.C kSt w B l.length l) :
    Calls Try.prog 6 #[.slice A l.length c, .slice B l.length d] w fun e w' => e = .returned (.bool true) ∧ Below w.heap.size w w' :=
  (eqst_walk l l A B c d w hA hB).mono fun e w' ⟨h1, h2⟩ => ⟨by rw [h1]; simp, h2⟩
end Go.Proofs.Ytkjaffnplehhaaa.Rg
