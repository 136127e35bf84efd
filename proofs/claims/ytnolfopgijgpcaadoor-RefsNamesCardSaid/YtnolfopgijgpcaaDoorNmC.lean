/- Plain law: the reference's Check, as it is printed, says just whether the name is good. -/
import Derived.Test.YtnolfopgijgpcaaDoorNmB
namespace Go.Proofs.YtnolfopgijgpcaaDoor.Nm
set_option linter.unusedVariables false
open Go.Lib Go.RowKit Go.Proofs.YtnolfopgijgpcaaDoor.PRefsNames Go.Proofs.YtnolfopgijgpcaaDoorW.PrintWords

abbrev bl (s : ByteArray) : List UInt8 := s.data.toList
theorem bl_length (s : ByteArray) : (bl s).length = s.size := (size_eq s).symm
theorem bl_drop (s : ByteArray) (i : Nat) (hi : i < s.size) : (bl s).drop i = (s.get! i) :: (bl s).drop (i + 1) := by
  have h : i < (bl s).length := by rw [bl_length]; exact hi
  rw [List.drop_eq_getElem_cons h]
  congr 1
  have h' : i < s.data.size := hi
  show s.data.toList[i] = s.data[i]!
  rw [getElem!_pos s.data i h', Array.getElem_toList]

def clean (l : List UInt8) : Prop := ∀ b ∈ l, 32 ≤ b.toNat ∧ b.toNat ≠ 127

theorem line_eq (s : ByteArray) (hs : s.size ≤ 255) : ∀ (d i k : Nat), i ≤ s.size → s.size - i ≤ d → d + 9 ≤ k →
    ∃ b, satchelref3_Line.l0 k s (i : Int) = some b ∧ (b = true → validD ((bl s).drop i) = true) ∧ (validD ((bl s).drop i) = true → clean ((bl s).drop i) → b = true)
  | d, i, 0, _, _, hk => by omega
  | d, i, k + 1, hi, hd, hk => by
    by_cases h : i < s.size
    · obtain ⟨m, rfl⟩ : ∃ m, k = m + 8 := ⟨k - 8, by omega⟩
      have hdr := bl_drop s i h
      have hne : (bl s).drop i ≠ [] := by rw [hdr]; simp
      have hD : decodeL ((bl s).drop i) = decodeN (s.size - i) (s.get! i).toNat (s.get! (i + 1)).toNat (s.get! (i + 2)).toNat (s.get! (i + 3)).toNat := by rw [decodeL_drop, decode_at]
      have hw := decodeL_width ((bl s).drop i)
      have hle := decodeL_le ((bl s).drop i) hne
      rw [List.length_drop, bl_length] at hle
      have hst := validD_step _ hne
      have hl0 : (s.get! i).toNat < 256 := (s.get! i).toNat_lt
      unfold satchelref3_Line.l0
      rw [if_pos (by omega), sign_eq s i h (by omega) m]
      simp only [Option.bind_some]
      unfold signN
      rw [← hD]
      by_cases hbad : (decodeL ((bl s).drop i)).1 = 65533 ∧ (decodeL ((bl s).drop i)).2 = 1
      · rw [if_pos hbad, if_pos (by omega)]
        rw [if_pos hbad] at hst
        exact ⟨false, rfl, by simp, fun hv => by rw [hv] at hst; cases hst⟩
      · rw [if_neg hbad, if_neg (by omega), if_pos (by omega), bt_get]
        rw [if_neg hbad] at hst
        by_cases h32 : (s.get! i).toNat < 32
        · rw [if_pos (by omega)]
          exact ⟨false, rfl, by simp, fun _ hc => by have := hc (s.get! i) (by rw [hdr]; simp); omega⟩
        · rw [if_neg (by omega)]
          by_cases h127 : (s.get! i).toNat = 127
          · rw [if_pos (by omega)]
            exact ⟨false, rfl, by simp, fun _ hc => by have := hc (s.get! i) (by rw [hdr]; simp); omega⟩
          · rw [if_neg (by omega), wrap_small (by omega) (by omega)]
            obtain ⟨b, hb, h1, h2⟩ := line_eq s hs (d - 1) (i + (decodeL ((bl s).drop i)).2) (m + 8) (by omega) (by omega) (by omega)
            rw [List.drop_drop] at hst
            refine ⟨b, by rw [← hb, Int.natCast_add], fun hbt => by rw [hst]; exact h1 hbt, fun hv hc => h2 (by rw [← hst]; exact hv) fun c hcm => hc c ?_⟩
            rw [← List.drop_drop] at hcm
            exact List.mem_of_mem_drop hcm
    · have : i = s.size := by omega
      subst this
      unfold satchelref3_Line.l0
      rw [if_neg (by omega)]
      have hn : (bl s).drop s.size = [] := by rw [List.drop_eq_nil_iff, bl_length]; omega
      exact ⟨true, rfl, fun _ => by rw [hn]; rfl, fun _ _ => rfl⟩
termination_by d i k => k

def mk (l : List UInt8) : ByteArray := ⟨l.toArray⟩
theorem bl_mk (l : List UInt8) : bl (mk l) = l := by simp [bl, mk]
theorem mk_bl (s : ByteArray) : mk (bl s) = s := by simp [bl, mk]
theorem extract_mk (s : ByteArray) (a b : Nat) : s.extract a b = mk (((bl s).take b).drop a) := by
  rw [← mk_bl (s.extract a b)]
  congr 1
  rw [bl, extract_data, List.drop_take]

theorem parted_eq (s : ByteArray) (hs : s.size ≤ 255) : ∀ (d a i k : Nat) (acc : List ByteArray), a ≤ i → i ≤ s.size → s.size - i ≤ d → d + 2 ≤ k → acc.length ≤ i →
    satchelref14_Parted.l0 k s 47 acc (a : Int) (i : Int) = some (acc ++ (cut (((bl s).take i).drop a) ((bl s).drop i)).map mk)
  | d, a, i, 0, acc, _, _, _, hk, _ => by omega
  | d, a, i, k + 1, acc, ha, hi, hd, hk, hacc => by
    unfold satchelref14_Parted.l0
    rw [if_pos (by omega)]
    by_cases h : i = s.size
    · rw [if_pos (by omega), if_pos (by omega), if_pos (by omega), if_pos (by omega), Int.toNat_natCast, Int.toNat_natCast, wrap_small (by omega) (by omega)]
      obtain ⟨m, rfl⟩ : ∃ m, k = m + 1 := ⟨k - 1, by omega⟩
      unfold satchelref14_Parted.l0
      rw [if_neg (by omega)]
      have hn : (bl s).drop i = [] := by rw [List.drop_eq_nil_iff, bl_length]; omega
      rw [hn, extract_mk]
      simp [cut]
    · rw [if_neg (by omega), if_pos (by omega), if_pos (by omega), bt_get]
      have hdr := bl_drop s i (by omega)
      by_cases hb : (s.get! i).toNat = 47
      · rw [if_pos (by omega), if_pos (by omega), if_pos (by omega), if_pos (by omega), Int.toNat_natCast, Int.toNat_natCast, wrap_small (by omega) (by omega)]
        rw [show (i : Int) + 1 = ((i + 1 : Nat) : Int) from by omega, parted_eq s hs (d - 1) (i + 1) (i + 1) k _ (by omega) (by omega) (by omega) (by omega) (by simp; omega)]
        rw [hdr]
        simp only [cut, hb, if_true]
        have hz : ((bl s).take (i + 1)).drop (i + 1) = [] := by rw [List.drop_eq_nil_iff, List.length_take]; omega
        rw [hz, extract_mk]
        simp
      · rw [if_neg (by omega), wrap_small (by omega) (by omega), show (i : Int) + 1 = ((i + 1 : Nat) : Int) from by omega,
          parted_eq s hs (d - 1) a (i + 1) k acc (by omega) (by omega) (by omega) (by omega) (by omega)]
        rw [hdr]
        simp only [cut, hb, if_false]
        have ht : (bl s).take (i + 1) = (bl s).take i ++ [s.get! i] := by
          have h1 : i < (bl s).length := by rw [bl_length]; omega
          rw [List.take_succ_eq_append_getElem h1]
          congr 2
          rw [List.drop_eq_getElem_cons h1] at hdr
          injection hdr
        rw [ht, List.drop_append_of_le_length (by rw [List.length_take, bl_length]; omega)]
termination_by d a i k => k

theorem signs_eq (b : Nat) : satchelref14_signs.f (b : Int) = some (alnum b || b == 46 || b == 45) := by
  unfold satchelref14_signs.f alnum
  repeat' split
  all_goals (congr 1; rw [Bool.eq_iff_iff]; simp; try omega)

/-- The part's loop, from place i on: the automaton's steps, last the byte behind. -/
theorem part_loop (s : ByteArray) (hs : s.size ≤ 255) (hno : ∀ b ∈ bl s, b.toNat ≠ 47) : ∀ (d i k : Nat), i ≤ s.size → s.size - i ≤ d → d + 1 ≤ k → (0 < i → (s.get! (i - 1)).toNat ≠ 47) →
    satchelref14_part.l0 k s (i : Int) = some (if i = 0 then (match bl s with | [] => true | b :: r => (alnum b.toNat || b.toNat == 46 || b.toNat == 45) && steps r b.toNat) else steps ((bl s).drop i) (s.get! (i - 1)).toNat)
  | d, i, 0, _, _, hk, _ => by omega
  | d, i, k + 1, hi, hd, hk, hl => by
    unfold satchelref14_part.l0
    by_cases h : i < s.size
    · have hdr := bl_drop s i h
      have hm : s.get! i ∈ bl s := List.mem_of_mem_drop (i := i) (by rw [hdr]; simp)
      have h47 := hno _ hm
      rw [if_pos (by omega), if_pos (by omega), bt_get, signs_eq]
      simp only [Option.bind_some]
      have hrec := part_loop s hs hno (d - 1) (i + 1) k (by omega) (by omega) (by omega) (fun _ => by simpa using h47)
      rw [if_neg (by omega)] at hrec
      rw [wrap_small (x := (i : Int) + 1) (by omega) (by omega), show (i : Int) + 1 = ((i + 1 : Nat) : Int) from by omega, hrec]
      simp only [Nat.add_sub_cancel]
      by_cases h0 : i = 0
      · subst h0
        rw [List.drop_zero] at hdr
        generalize (bl s).drop (0 + 1) = r at *
        rw [hdr]
        simp only [if_true]
        by_cases hc : (alnum (s.get! 0).toNat || (s.get! 0).toNat == 46 || (s.get! 0).toNat == 45) = true
        · rw [if_pos hc, if_neg (by omega), hc, Bool.true_and]
        · have hc' : (alnum (s.get! 0).toNat || (s.get! 0).toNat == 46 || (s.get! 0).toNat == 45) = false := by simpa only [Bool.not_eq_true] using hc
          rw [if_neg hc, hc']; rfl
      · rw [if_neg h0, hdr]
        simp only [steps]
        have hl' := hl (by omega)
        by_cases hc : (alnum (s.get! i).toNat || (s.get! i).toNat == 46 || (s.get! i).toNat == 45) = true
        · rw [if_pos hc, if_pos (by omega)]
          by_cases h46 : (s.get! i).toNat = 46
          · rw [if_pos (by omega), if_pos (by unfold wrap64; omega), if_pos (by unfold wrap64; omega), wrap_small (by omega) (by omega), show (i : Int) - 1 = ((i - 1 : Nat) : Int) from by omega, bt_get]
            by_cases hp : (s.get! (i - 1)).toNat = 46
            · rw [if_pos (by omega), h46]; simp [step, fin, hp]
            · rw [if_neg (by omega), h46]; simp [step, fin, hp, hl']
          · rw [if_neg (by omega)]
            have : step (s.get! (i - 1)).toNat (s.get! i).toNat = true := by
              unfold step
              rw [if_neg h47, if_neg h46]
              split
              · simp [hl']
              · rename_i h45
                simpa [h46, h45] using hc
            rw [this]; rfl
        · rw [if_neg hc]
          have : step (s.get! (i - 1)).toNat (s.get! i).toNat = false := by
            simp at hc
            unfold step
            rw [if_neg h47, if_neg hc.1.2, if_neg hc.2]
            exact hc.1.1
          rw [this]; rfl
    · have : i = s.size := by omega
      subst this
      rw [if_neg (by omega)]
      have hn : (bl s).drop s.size = [] := by rw [List.drop_eq_nil_iff, bl_length]; omega
      by_cases h0 : s.size = 0
      · rw [if_pos h0]
        have : bl s = [] := List.eq_nil_of_length_eq_zero (by rw [bl_length]; exact h0)
        rw [this]
      · rw [if_neg h0, hn]; rfl
termination_by d i k => k
end Go.Proofs.YtnolfopgijgpcaaDoor.Nm
