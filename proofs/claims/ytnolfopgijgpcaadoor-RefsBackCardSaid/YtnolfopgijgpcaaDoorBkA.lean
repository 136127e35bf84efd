/- Plain law: there and back. No program. -/
import Derived.Test.YtnolfopgijgpcaaDoorQa
namespace Go.Proofs.YtnolfopgijgpcaaDoor.Rm
open Go.Lib Go.Proofs.YtnolfopgijgpcaaDoor.Nm
set_option linter.unusedVariables false

theorem put_fits (s m : By) (h : hasStar s = true) : fitsL s (putL s m) = (m, true) := by
  unfold fitsL putL
  rw [if_pos h, if_pos h]
  have h1 : (pre s).length + (suf s).length ≤ (pre s ++ m ++ suf s).length := by simp only [List.length_append]; omega
  have h2 : (pre s ++ m ++ suf s).take (pre s).length = pre s := by rw [List.append_assoc, List.take_left]
  have h3 : (pre s ++ m ++ suf s).drop ((pre s ++ m ++ suf s).length - (suf s).length) = suf s := by
    rw [show (pre s ++ m ++ suf s).length - (suf s).length = (pre s ++ m).length from by simp only [List.length_append]; omega, List.drop_left]
  rw [if_pos ⟨h1, h2, h3⟩, List.append_assoc, List.drop_left]
  rw [show (pre s ++ (m ++ suf s)).length - (suf s).length - (pre s).length = m.length from by simp only [List.length_append]; omega, List.take_left]
theorem put_flat (s m : By) (h : hasStar s = false) : putL s m = s := by unfold putL; rw [h]; rfl
theorem fits_flat (s x : By) (h : hasStar s = false) : fitsL s x = ([], x == s) := by unfold fitsL; rw [h]; rfl
theorem fits_back (s x : By) (hf : (fitsL s x).2 = true) : putL s (fitsL s x).1 = x := by
  cases h : hasStar s
  · rw [fits_flat s x h] at hf ⊢
    rw [put_flat s _ h]
    exact (eq_of_beq hf).symm
  · unfold fitsL at hf ⊢
    rw [if_pos h] at hf ⊢
    by_cases hc : (pre s).length + (suf s).length ≤ x.length ∧ x.take (pre s).length = pre s ∧ x.drop (x.length - (suf s).length) = suf s
    · rw [if_pos hc]
      exact (fits_put s x h hc.1).2 hc.2
    · rw [if_neg hc] at hf; cases hf
theorem first_hit : ∀ (r : List R) (n : By), (first r n).2.2 = true → ∃ u ∈ r, takes u n = true ∧ (first r n).1 = putL u.dst (fitsL u.src n).1
  | [], n, h => by cases h
  | u :: r, n, h => by
    unfold first at h ⊢
    cases ht : takes u n
    · rw [ht, if_neg (by simp)] at h
      rw [if_neg (by simp)]
      obtain ⟨v, hv, h1, h2⟩ := first_hit r n h
      exact ⟨v, by simp [hv], h1, h2⟩
    · rw [if_pos rfl]
      exact ⟨u, by simp, ht, rfl⟩
theorem unmap_spec (all : List R) (t : By) : ∀ r : List R, (unmapL all r t).2 = true → (mapL all (unmapL all r t).1).2.2 = true ∧ (mapL all (unmapL all r t).1).1 = t
  | [], h => by cases h
  | u :: r, h => by
    unfold unmapL at h ⊢
    split
    · rename_i hc
      simp only [Bool.and_eq_true] at hc
      exact ⟨hc.2.1, eq_of_beq hc.2.2⟩
    · rename_i hc
      rw [if_neg hc] at h
      exact unmap_spec all t r h
theorem unmap_hit (all : List R) (t : By) : ∀ r : List R, (∃ u ∈ r, backs u t = true ∧ (mapL all (putL u.src (fitsL u.dst t).1)).2.2 = true ∧ (mapL all (putL u.src (fitsL u.dst t).1)).1 = t) → (unmapL all r t).2 = true
  | [], h => by obtain ⟨u, hu, _⟩ := h; simp at hu
  | u :: r, h => by
    unfold unmapL
    split
    · rfl
    · rename_i hc
      obtain ⟨v, hv, h1, h2, h3⟩ := h
      rcases List.mem_cons.1 hv with rfl | hv
      · exact absurd (by rw [h1, h2, h3]; simp) hc
      · exact unmap_hit all t r ⟨v, hv, h1, h2, h3⟩
theorem map_good (all : List R) (n : By) (h : (mapL all n).2.2 = true) : goodB n = true ∧ mapL all n = first all n := by
  unfold mapL at h ⊢
  split at h
  · rename_i hc
    rw [if_pos hc]
    simp only [Bool.and_eq_true] at hc
    exact ⟨hc.1, rfl⟩
  · cases h
/-- What Map makes of a name leads back to a name of which Map makes the same; a target is a good name. -/
theorem there_back (all : List R) (n : By) (h : (mapL all n).2.2 = true) : (unmapL all all (mapL all n).1).2 = true ∧ (mapL all (unmapL all all (mapL all n).1).1).2.2 = true ∧ (mapL all (unmapL all all (mapL all n).1).1).1 = (mapL all n).1 ∧ goodB (mapL all n).1 = true ∧ goodB n = true := by
  obtain ⟨hg, he⟩ := map_good all n h
  obtain ⟨u, hu, ht, ha⟩ := first_hit all n (he ▸ h)
  have ht0 := ht
  unfold takes at ht
  simp only [Bool.and_eq_true] at ht
  obtain ⟨⟨⟨h1, h2⟩, h3⟩, h4⟩ := ht
  have hs : hasStar u.src = hasStar u.dst := eq_of_beq h3
  have hb : fitsL u.dst (putL u.dst (fitsL u.src n).1) = ((fitsL u.src n).1, true) := by
    cases hd : hasStar u.dst
    · rw [put_flat _ _ hd, fits_flat _ _ hd, fits_flat _ _ (hs.trans hd)]; simp
    · exact put_fits _ _ hd
  have hp := fits_back u.src n h2
  have hm : (mapL all n).1 = putL u.dst (fitsL u.src n).1 := by rw [he]; exact ha
  have hhit : (unmapL all all (mapL all n).1).2 = true := by
    refine unmap_hit all _ all ⟨u, hu, ?_, ?_, ?_⟩
    · unfold backs; rw [hm, hb, h1, h3]; rfl
    · rw [hm, hb]; show (mapL all (putL u.src (fitsL u.src n).1)).2.2 = true; rw [hp]; exact h
    · rw [hm, hb]; show (mapL all (putL u.src (fitsL u.src n).1)).1 = _; rw [hp]; exact hm
  exact ⟨hhit, (unmap_spec all _ all hhit).1, (unmap_spec all _ all hhit).2, by rw [hm]; exact h4, hg⟩
/-- A rule that leaves a starless name out. -/
theorem left_out (all : List R) (n d : By) (f : Bool) (hs : hasStar n = false) : (mapL (all ++ [⟨n, d, f, true⟩]) n).2.2 = false := by
  have ho : out (all ++ [⟨n, d, f, true⟩]) n = true := by
    unfold out
    rw [List.any_append]
    simp [fits_flat n n hs]
  unfold mapL
  rw [ho]
  simp
/-! ### lengths -/
theorem fits_len (s x : By) : (fitsL s x).1.length ≤ x.length := by
  unfold fitsL
  split
  · split
    · simp only [List.length_take, List.length_drop]; omega
    · simp
  · simp
theorem put_len (s m : By) : (putL s m).length ≤ s.length + m.length := by
  unfold putL
  split
  · rename_i h
    have := suf_length s h
    simp; omega
  · omega
theorem first_len (M : Nat) (n : By) : ∀ r : List R, (∀ u ∈ r, u.dst.length ≤ M) → (first r n).1.length ≤ M + n.length
  | [], h => by simp [first]
  | u :: r, h => by
    unfold first
    split
    · have h1 := h u (by simp); have h2 := put_len u.dst (fitsL u.src n).1; have h3 := fits_len u.src n
      show (putL u.dst (fitsL u.src n).1).length ≤ _
      omega
    · exact first_len M n r (fun v hv => h v (by simp [hv]))
theorem map_len (M : Nat) (n : By) (r : List R) (h : ∀ u ∈ r, u.dst.length ≤ M) : (mapL r n).1.length ≤ M + n.length := by
  unfold mapL
  split
  · exact first_len M n r h
  · simp
theorem unmap_len (M : Nat) (all : List R) (t : By) : ∀ r : List R, (∀ u ∈ r, u.src.length ≤ M) → (unmapL all r t).1.length ≤ M + t.length
  | [], h => by simp [unmapL]
  | u :: r, h => by
    unfold unmapL
    split
    · have h1 := h u (by simp); have h2 := put_len u.src (fitsL u.dst t).1; have h3 := fits_len u.dst t
      show (putL u.src (fitsL u.dst t).1).length ≤ _
      omega
    · exact unmap_len M all t r (fun v hv => h v (by simp [hv]))
end Go.Proofs.YtnolfopgijgpcaaDoor.Rm
