import Derived.Test.YtnolfopgijgpcaaDoorPRefsRulesx13
import Derived.Test.YtnolfopgijgpcaaDoorPRefsRulesx5
import Derived.Test.YtnolfopgijgpcaaDoorPRefsRulesx2
import Derived.Test.YtnolfopgijgpcaaDoorNmA
import Derived.Test.YtnolfopgijgpcaaDoorShelf
import Derived.Lib.OthersKept
import Derived.Lib.Hide
import Derived.Outline
/- Plain law: the reference's sign and Line, as they are printed, against the decoder. -/
namespace Go.Proofs.YtnolfopgijgpcaaDoor.Nm
open Go.Lib Go.RowKit Go.Proofs.YtnolfopgijgpcaaDoor.PRefsRules Go.Proofs.YtnolfopgijgpcaaDoorW.PrintWords

theorem bt_get (s : ByteArray) (i : Nat) : bt s (i : Int) = ((s.get! i).toNat : Int) := by
  unfold bt
  rw [Int.toNat_natCast]
  split
  · rename_i h
    have h' : i < s.data.size := h
    show ((s.data[i]'h').toNat : Int) = ((s.data[i]!).toNat : Int)
    rw [getElem!_pos s.data i h']
  · rename_i h
    have h' : ¬ i < s.data.size := h
    show (0 : Int) = ((s.data[i]!).toNat : Int)
    rw [getElem!_neg s.data i h']
    rfl
theorem wrap_small {x : Int} (h0 : -1000000 ≤ x) (h1 : x ≤ 1000000) : wrap64 x = x := by unfold wrap64; omega
theorem wrap_bt (s : ByteArray) (i : Int) : wrap64 (bt s i) = bt s i := by
  have := bt_range s i
  exact wrap_small (by omega) (by omega)
theorem wrap_succ (i j : Nat) (hi : i ≤ 100000) (hj : j ≤ 10) : wrap64 ((i : Int) + (j : Int)) = ((i + j : Nat) : Int) := by
  rw [wrap_small (by omega) (by omega)]; omega

theorem tail_eq (s : ByteArray) (i : Nat) (lo hi : Int) : satchelref3_tail.f s (i : Int) lo hi = some (decide (i < s.size ∧ lo ≤ bt s i ∧ bt s i ≤ hi)) := by
  unfold satchelref3_tail.f
  rw [wrap_bt]
  by_cases h : i < s.size
  · rw [if_pos (by omega), if_pos (by omega)]
    by_cases h1 : lo ≤ bt s i
    · rw [if_pos (by omega)]; simp [h, h1]
    · rw [if_neg (by omega)]; simp [h1]
  · rw [if_neg (by omega)]; simp [h]

/-- The reference's sign: the width of a right sign, or 0. -/
def signN (n b0 b1 b2 b3 : Nat) : Nat :=
  if (decodeN n b0 b1 b2 b3).1 = 65533 ∧ (decodeN n b0 b1 b2 b3).2 = 1 then 0 else (decodeN n b0 b1 b2 b3).2

set_option maxRecDepth 100000 in
set_option maxHeartbeats 4000000 in
theorem sign_eq (s : ByteArray) (i : Nat) (hi : i < s.size) (hs : s.size ≤ 1000) (m : Nat) :
    satchelref3_sign.f (m + 8) s (i : Int) = some ((signN (s.size - i) (s.get! i).toNat (s.get! (i + 1)).toNat (s.get! (i + 2)).toNat (s.get! (i + 3)).toNat : Nat) : Int) := by
  have e1 : wrap64 ((i : Int) + 1) = ((i + 1 : Nat) : Int) := wrap_succ i 1 (by omega) (by omega)
  have e2 : wrap64 ((i : Int) + 2) = ((i + 2 : Nat) : Int) := wrap_succ i 2 (by omega) (by omega)
  have e3 : wrap64 ((i : Int) + 3) = ((i + 3 : Nat) : Int) := wrap_succ i 3 (by omega) (by omega)
  have l0 : (s.get! i).toNat < 256 := (s.get! i).toNat_lt
  have l1 : (s.get! (i + 1)).toNat < 256 := (s.get! (i + 1)).toNat_lt
  have l2 : (s.get! (i + 2)).toNat < 256 := (s.get! (i + 2)).toNat_lt
  have l3 : (s.get! (i + 3)).toNat < 256 := (s.get! (i + 3)).toNat_lt
  have c1 : (i + 1 < s.size) = (1 < s.size - i) := propext ⟨fun h => by omega, fun h => by omega⟩
  have c2 : (i + 2 < s.size) = (2 < s.size - i) := propext ⟨fun h => by omega, fun h => by omega⟩
  have c3 : (i + 3 < s.size) = (3 < s.size - i) := propext ⟨fun h => by omega, fun h => by omega⟩
  have w0 : wrap64 ((s.get! i).toNat : Int) = ((s.get! i).toNat : Int) := wrap_small (by omega) (by omega)
  simp only [satchelref3_sign.f, satchelref3_sign.j0, satchelref3_sign.j1, satchelref3_sign.j2, satchelref3_sign.j3, satchelref3_sign.j4, satchelref3_sign.j5, satchelref3_sign.j6,
    e1, e2, e3, tail_eq, w0, bt_get, c1, c2, c3, Option.bind_some, decide_eq_true_eq, Bool.false_eq_true, if_false]
  have hn : 1 ≤ s.size - i := by omega
  rw [if_pos (by omega), if_pos (by omega)]
  generalize (s.get! i).toNat = b0 at *
  generalize (s.get! (i + 1)).toNat = b1 at *
  generalize (s.get! (i + 2)).toNat = b2 at *
  generalize (s.get! (i + 3)).toNat = b3 at *
  generalize s.size - i = n at *
  clear e1 e2 e3 c1 c2 c3 hi hs w0
  have key : ∀ sz lo hi, firstT b0 % 8 = sz → accLo (firstT b0 / 16) = lo → accHi (firstT b0 / 16) = hi → (sz = 2 ∨ sz = 3 ∨ sz = 4) → 128 ≤ b0 →
      signN n b0 b1 b2 b3 = (checkN n b1 b2 b3 sz lo hi).getD 0 := by
    intro sz lo hi h1 h2 h3 _ hb
    unfold signN
    rcases check_decode n b0 b1 b2 b3 hn hb l0 l1 l2 l3 with ⟨ha, hd⟩ | ⟨k, hk, ha, hd⟩
    · rw [h1, h2, h3] at ha
      rw [ha, hd]; simp
    · rw [h1, h2, h3] at ha
      rw [ha, if_neg (by omega), hd]; rfl
  by_cases a0 : b0 < 128
  · rw [if_pos (by omega)]
    have e : decodeN n b0 b1 b2 b3 = (b0, 1) := by unfold decodeN; rw [if_pos a0]
    unfold signN
    rw [e, if_neg (by simp; omega)]; rfl
  rw [if_neg (by omega)]
  by_cases a1 : b0 < 194
  · rw [if_neg (by omega), if_neg (by omega), if_neg (by omega)]
    rw [signN, decodeN_bad n b0 b1 b2 b3 (.inl ⟨by omega, a1⟩)]; simp
  rw [if_pos (by omega)]
  by_cases a2 : b0 < 224
  · rw [if_pos (by omega), key 2 128 191 (by simp [firstT, a0, a1, a2]) (by simp [firstT, accLo, a0, a1, a2]) (by simp [firstT, accHi, a0, a1, a2]) (by omega) (by omega)]
    unfold checkN
    rw [if_pos rfl]
    by_cases h : n < 2 ∨ b1 < 128 ∨ 191 < b1
    · rw [if_pos h, if_neg (by omega)]; rfl
    · rw [if_neg h, if_pos (by omega)]; rfl
  rw [if_neg (by omega), if_pos (by omega)]
  by_cases a3 : b0 < 240
  · rw [if_pos (by omega)]
    have fin3 : ∀ lo hi : Nat, signN n b0 b1 b2 b3 = (checkN n b1 b2 b3 3 lo hi).getD 0 →
        (if 1 < n ∧ (lo : Int) ≤ (b1 : Int) ∧ (b1 : Int) ≤ (hi : Int) then (if 2 < n ∧ (128 : Int) ≤ (b2 : Int) ∧ (b2 : Int) ≤ 191 then some (3 : Int) else some 0) else some 0) = some ((signN n b0 b1 b2 b3 : Nat) : Int) := by
      intro lo hi e
      rw [e, show checkN n b1 b2 b3 3 lo hi = if n < 3 ∨ b1 < lo ∨ hi < b1 ∨ b2 < 128 ∨ 191 < b2 then none else some 3 from rfl]
      by_cases h1 : 1 < n ∧ (lo : Int) ≤ (b1 : Int) ∧ (b1 : Int) ≤ (hi : Int)
      · rw [if_pos h1]
        by_cases h2 : 2 < n ∧ (128 : Int) ≤ (b2 : Int) ∧ (b2 : Int) ≤ 191
        · rw [if_pos h2, if_neg (by omega)]; rfl
        · rw [if_neg h2, if_pos (by omega)]; rfl
      · rw [if_neg h1, if_pos (by omega)]; rfl
    by_cases a4 : b0 = 224
    · subst a4
      rw [if_pos (by omega), if_neg (by omega)]
      exact fin3 160 191 (key 3 160 191 (by decide) (by decide) (by decide) (by omega) (by omega))
    · rw [if_neg (by omega)]
      by_cases a5 : b0 = 237
      · subst a5
        rw [if_pos (by omega)]
        exact fin3 128 159 (key 3 128 159 (by decide) (by decide) (by decide) (by omega) (by omega))
      · rw [if_neg (by omega)]
        refine fin3 128 191 ?_
        by_cases a6 : b0 < 237
        · exact key 3 128 191 (by simp [firstT, a0, a1, a2, a4, a6]) (by simp [firstT, accLo, a0, a1, a2, a4, a6]) (by simp [firstT, accHi, a0, a1, a2, a4, a6]) (by omega) (by omega)
        · exact key 3 128 191 (by simp [firstT, a0, a1, a2, a3, a4, a5, a6]) (by simp [firstT, accLo, a0, a1, a2, a3, a4, a5, a6]) (by simp [firstT, accHi, a0, a1, a2, a3, a4, a5, a6]) (by omega) (by omega)
  · rw [if_neg (by omega), if_pos (by omega)]
    by_cases a7 : b0 ≤ 244
    · rw [if_pos (by omega)]
      have fin4 : ∀ lo hi : Nat, signN n b0 b1 b2 b3 = (checkN n b1 b2 b3 4 lo hi).getD 0 →
          (if 1 < n ∧ (lo : Int) ≤ (b1 : Int) ∧ (b1 : Int) ≤ (hi : Int) then (if 2 < n ∧ (128 : Int) ≤ (b2 : Int) ∧ (b2 : Int) ≤ 191 then (if 3 < n ∧ (128 : Int) ≤ (b3 : Int) ∧ (b3 : Int) ≤ 191 then some (4 : Int) else some 0) else some 0) else some 0) = some ((signN n b0 b1 b2 b3 : Nat) : Int) := by
        intro lo hi e
        rw [e, show checkN n b1 b2 b3 4 lo hi = if n < 4 ∨ b1 < lo ∨ hi < b1 ∨ b2 < 128 ∨ 191 < b2 ∨ b3 < 128 ∨ 191 < b3 then none else some 4 from rfl]
        by_cases h1 : 1 < n ∧ (lo : Int) ≤ (b1 : Int) ∧ (b1 : Int) ≤ (hi : Int)
        · rw [if_pos h1]
          by_cases h2 : 2 < n ∧ (128 : Int) ≤ (b2 : Int) ∧ (b2 : Int) ≤ 191
          · rw [if_pos h2]
            by_cases h3 : 3 < n ∧ (128 : Int) ≤ (b3 : Int) ∧ (b3 : Int) ≤ 191
            · rw [if_pos h3, if_neg (by omega)]; rfl
            · rw [if_neg h3, if_pos (by omega)]; rfl
          · rw [if_neg h2, if_pos (by omega)]; rfl
        · rw [if_neg h1, if_pos (by omega)]; rfl
      by_cases a8 : b0 = 240
      · subst a8
        rw [if_pos (by omega), if_neg (by omega)]
        exact fin4 144 191 (key 4 144 191 (by decide) (by decide) (by decide) (by omega) (by omega))
      · rw [if_neg (by omega)]
        by_cases a9 : b0 = 244
        · subst a9
          rw [if_pos (by omega)]
          exact fin4 128 143 (key 4 128 143 (by decide) (by decide) (by decide) (by omega) (by omega))
        · rw [if_neg (by omega)]
          refine fin4 128 191 (key 4 128 191 ?_ ?_ ?_ (by omega) (by omega)) <;>
            simp [firstT, accLo, accHi, a0, a1, a2, a3, a8, show ¬ b0 = 224 by omega, show ¬ b0 < 237 by omega, show ¬ b0 = 237 by omega, show b0 < 244 by omega]
    · rw [if_neg (by omega)]
      unfold signN
      rw [decodeN_bad n b0 b1 b2 b3 (.inr ⟨by omega, l0⟩)]; rfl
end Go.Proofs.YtnolfopgijgpcaaDoor.Nm
/- Plain law: the reference's Check, as it is printed, says just whether the name is good. -/
namespace Go.Proofs.YtnolfopgijgpcaaDoor.Nm
set_option linter.unusedVariables false
open Go.Lib Go.RowKit Go.Proofs.YtnolfopgijgpcaaDoor.PRefsRules Go.Proofs.YtnolfopgijgpcaaDoorW.PrintWords

abbrev bl (s : ByteArray) : List UInt8 := s.data.toList
theorem bl_length (s : ByteArray) : (bl s).length = s.size := (size_eq s).symm
theorem bl_drop (s : ByteArray) (i : Nat) (hi : i < s.size) : (bl s).drop i = (s.get! i) :: (bl s).drop (i + 1) := by
  have h : i < (bl s).length := by rw [bl_length]; exact hi
  rw [List.drop_eq_getElem_cons h]
  congr 1
  have h' : i < s.data.size := hi
  show s.data.toList[i] = s.data[i]!
  rw [getElem!_pos s.data i h', Array.getElem_toList]

def clean (l : List UInt8) : Prop := ∀ b ∈ l, 32 ≤ b.toNat ∧ b.toNat ≠ 127

theorem line_eq (s : ByteArray) (hs : s.size ≤ 255) : ∀ (d i k : Nat), i ≤ s.size → s.size - i ≤ d → d + 9 ≤ k →
    ∃ b, satchelref3_Line.l0 k s (i : Int) = some b ∧ (b = true → validD ((bl s).drop i) = true) ∧ (validD ((bl s).drop i) = true → clean ((bl s).drop i) → b = true)
  | d, i, 0, _, _, hk => by omega
  | d, i, k + 1, hi, hd, hk => by
    by_cases h : i < s.size
    · obtain ⟨m, rfl⟩ : ∃ m, k = m + 8 := ⟨k - 8, by omega⟩
      have hdr := bl_drop s i h
      have hne : (bl s).drop i ≠ [] := by rw [hdr]; simp
      have hD : decodeL ((bl s).drop i) = decodeN (s.size - i) (s.get! i).toNat (s.get! (i + 1)).toNat (s.get! (i + 2)).toNat (s.get! (i + 3)).toNat := by rw [decodeL_drop, decode_at]
      have hw := decodeL_width ((bl s).drop i)
      have hle := decodeL_le ((bl s).drop i) hne
      rw [List.length_drop, bl_length] at hle
      have hst := validD_step _ hne
      have hl0 : (s.get! i).toNat < 256 := (s.get! i).toNat_lt
      unfold satchelref3_Line.l0
      rw [if_pos (by omega), sign_eq s i h (by omega) m]
      simp only [Option.bind_some]
      unfold signN
      rw [← hD]
      by_cases hbad : (decodeL ((bl s).drop i)).1 = 65533 ∧ (decodeL ((bl s).drop i)).2 = 1
      · rw [if_pos hbad, if_pos (by omega)]
        rw [if_pos hbad] at hst
        exact ⟨false, rfl, by simp, fun hv => by rw [hv] at hst; cases hst⟩
      · rw [if_neg hbad, if_neg (by omega), if_pos (by omega), bt_get]
        rw [if_neg hbad] at hst
        by_cases h32 : (s.get! i).toNat < 32
        · rw [if_pos (by omega)]
          exact ⟨false, rfl, by simp, fun _ hc => by have := hc (s.get! i) (by rw [hdr]; simp); omega⟩
        · rw [if_neg (by omega)]
          by_cases h127 : (s.get! i).toNat = 127
          · rw [if_pos (by omega)]
            exact ⟨false, rfl, by simp, fun _ hc => by have := hc (s.get! i) (by rw [hdr]; simp); omega⟩
          · rw [if_neg (by omega), wrap_small (by omega) (by omega)]
            obtain ⟨b, hb, h1, h2⟩ := line_eq s hs (d - 1) (i + (decodeL ((bl s).drop i)).2) (m + 8) (by omega) (by omega) (by omega)
            rw [List.drop_drop] at hst
            refine ⟨b, by rw [← hb, Int.natCast_add], fun hbt => by rw [hst]; exact h1 hbt, fun hv hc => h2 (by rw [← hst]; exact hv) fun c hcm => hc c ?_⟩
            rw [← List.drop_drop] at hcm
            exact List.mem_of_mem_drop hcm
    · have : i = s.size := by omega
      subst this
      unfold satchelref3_Line.l0
      rw [if_neg (by omega)]
      have hn : (bl s).drop s.size = [] := by rw [List.drop_eq_nil_iff, bl_length]; omega
      exact ⟨true, rfl, fun _ => by rw [hn]; rfl, fun _ _ => rfl⟩
termination_by d i k => k

def mk (l : List UInt8) : ByteArray := ⟨l.toArray⟩
theorem bl_mk (l : List UInt8) : bl (mk l) = l := by simp [bl, mk]
theorem mk_bl (s : ByteArray) : mk (bl s) = s := by simp [bl, mk]
theorem extract_mk (s : ByteArray) (a b : Nat) : s.extract a b = mk (((bl s).take b).drop a) := by
  rw [← mk_bl (s.extract a b)]
  congr 1
  rw [bl, extract_data, List.drop_take]

theorem parted_eq (s : ByteArray) (hs : s.size ≤ 255) : ∀ (d a i k : Nat) (acc : List ByteArray), a ≤ i → i ≤ s.size → s.size - i ≤ d → d + 2 ≤ k → acc.length ≤ i →
    satchelref14_Parted.l0 k s 47 acc (a : Int) (i : Int) = some (acc ++ (cut (((bl s).take i).drop a) ((bl s).drop i)).map mk)
  | d, a, i, 0, acc, _, _, _, hk, _ => by omega
  | d, a, i, k + 1, acc, ha, hi, hd, hk, hacc => by
    unfold satchelref14_Parted.l0
    rw [if_pos (by omega)]
    by_cases h : i = s.size
    · rw [if_pos (by omega), if_pos (by omega), if_pos (by omega), if_pos (by omega), Int.toNat_natCast, Int.toNat_natCast, wrap_small (by omega) (by omega)]
      obtain ⟨m, rfl⟩ : ∃ m, k = m + 1 := ⟨k - 1, by omega⟩
      unfold satchelref14_Parted.l0
      rw [if_neg (by omega)]
      have hn : (bl s).drop i = [] := by rw [List.drop_eq_nil_iff, bl_length]; omega
      rw [hn, extract_mk]
      simp [cut]
    · rw [if_neg (by omega), if_pos (by omega), if_pos (by omega), bt_get]
      have hdr := bl_drop s i (by omega)
      by_cases hb : (s.get! i).toNat = 47
      · rw [if_pos (by omega), if_pos (by omega), if_pos (by omega), if_pos (by omega), Int.toNat_natCast, Int.toNat_natCast, wrap_small (by omega) (by omega)]
        rw [show (i : Int) + 1 = ((i + 1 : Nat) : Int) from by omega, parted_eq s hs (d - 1) (i + 1) (i + 1) k _ (by omega) (by omega) (by omega) (by omega) (by simp; omega)]
        rw [hdr]
        simp only [cut, hb, if_true]
        have hz : ((bl s).take (i + 1)).drop (i + 1) = [] := by rw [List.drop_eq_nil_iff, List.length_take]; omega
        rw [hz, extract_mk]
        simp
      · rw [if_neg (by omega), wrap_small (by omega) (by omega), show (i : Int) + 1 = ((i + 1 : Nat) : Int) from by omega,
          parted_eq s hs (d - 1) a (i + 1) k acc (by omega) (by omega) (by omega) (by omega) (by omega)]
        rw [hdr]
        simp only [cut, hb, if_false]
        have ht : (bl s).take (i + 1) = (bl s).take i ++ [s.get! i] := by
          have h1 : i < (bl s).length := by rw [bl_length]; omega
          rw [List.take_succ_eq_append_getElem h1]
          congr 2
          rw [List.drop_eq_getElem_cons h1] at hdr
          injection hdr
        rw [ht, List.drop_append_of_le_length (by rw [List.length_take, bl_length]; omega)]
termination_by d a i k => k

theorem signs_eq (b : Nat) : satchelref14_signs.f (b : Int) = some (alnum b || b == 46 || b == 45) := by
  unfold satchelref14_signs.f alnum
  repeat' split
  all_goals (congr 1; rw [Bool.eq_iff_iff]; simp; try omega)

/-- The part's loop, from place i on: the automaton's steps, last the byte behind. -/
theorem part_loop (s : ByteArray) (hs : s.size ≤ 255) (hno : ∀ b ∈ bl s, b.toNat ≠ 47) : ∀ (d i k : Nat), i ≤ s.size → s.size - i ≤ d → d + 1 ≤ k → (0 < i → (s.get! (i - 1)).toNat ≠ 47) →
    satchelref14_part.l0 k s (i : Int) = some (if i = 0 then (match bl s with | [] => true | b :: r => (alnum b.toNat || b.toNat == 46 || b.toNat == 45) && steps r b.toNat) else steps ((bl s).drop i) (s.get! (i - 1)).toNat)
  | d, i, 0, _, _, hk, _ => by omega
  | d, i, k + 1, hi, hd, hk, hl => by
    unfold satchelref14_part.l0
    by_cases h : i < s.size
    · have hdr := bl_drop s i h
      have hm : s.get! i ∈ bl s := List.mem_of_mem_drop (i := i) (by rw [hdr]; simp)
      have h47 := hno _ hm
      rw [if_pos (by omega), if_pos (by omega), bt_get, signs_eq]
      simp only [Option.bind_some]
      have hrec := part_loop s hs hno (d - 1) (i + 1) k (by omega) (by omega) (by omega) (fun _ => by simpa using h47)
      rw [if_neg (by omega)] at hrec
      rw [wrap_small (x := (i : Int) + 1) (by omega) (by omega), show (i : Int) + 1 = ((i + 1 : Nat) : Int) from by omega, hrec]
      simp only [Nat.add_sub_cancel]
      by_cases h0 : i = 0
      · subst h0
        rw [List.drop_zero] at hdr
        generalize (bl s).drop (0 + 1) = r at *
        rw [hdr]
        simp only [if_true]
        by_cases hc : (alnum (s.get! 0).toNat || (s.get! 0).toNat == 46 || (s.get! 0).toNat == 45) = true
        · rw [if_pos hc, if_neg (by omega), hc, Bool.true_and]
        · have hc' : (alnum (s.get! 0).toNat || (s.get! 0).toNat == 46 || (s.get! 0).toNat == 45) = false := by simpa only [Bool.not_eq_true] using hc
          rw [if_neg hc, hc']; rfl
      · rw [if_neg h0, hdr]
        simp only [steps]
        have hl' := hl (by omega)
        by_cases hc : (alnum (s.get! i).toNat || (s.get! i).toNat == 46 || (s.get! i).toNat == 45) = true
        · rw [if_pos hc, if_pos (by omega)]
          by_cases h46 : (s.get! i).toNat = 46
          · rw [if_pos (by omega), if_pos (by unfold wrap64; omega), if_pos (by unfold wrap64; omega), wrap_small (by omega) (by omega), show (i : Int) - 1 = ((i - 1 : Nat) : Int) from by omega, bt_get]
            by_cases hp : (s.get! (i - 1)).toNat = 46
            · rw [if_pos (by omega), h46]; simp [step, fin, hp]
            · rw [if_neg (by omega), h46]; simp [step, fin, hp, hl']
          · rw [if_neg (by omega)]
            have : step (s.get! (i - 1)).toNat (s.get! i).toNat = true := by
              unfold step
              rw [if_neg h47, if_neg h46]
              split
              · simp [hl']
              · rename_i h45
                simpa [h46, h45] using hc
            rw [this]; rfl
        · rw [if_neg hc]
          have : step (s.get! (i - 1)).toNat (s.get! i).toNat = false := by
            simp at hc
            unfold step
            rw [if_neg h47, if_neg hc.1.2, if_neg hc.2]
            exact hc.1.1
          rw [this]; rfl
    · have : i = s.size := by omega
      subst this
      rw [if_neg (by omega)]
      have hn : (bl s).drop s.size = [] := by rw [List.drop_eq_nil_iff, bl_length]; omega
      by_cases h0 : s.size = 0
      · rw [if_pos h0]
        have : bl s = [] := List.eq_nil_of_length_eq_zero (by rw [bl_length]; exact h0)
        rw [this]
      · rw [if_neg h0, hn]; rfl
termination_by d i k => k
end Go.Proofs.YtnolfopgijgpcaaDoor.Nm
/- Plain law: the reference's Check, as it is printed, says just whether the name is good. -/
namespace Go.Proofs.YtnolfopgijgpcaaDoor.Nm
set_option linter.unusedVariables false
open Go.Lib Go.RowKit Go.Proofs.YtnolfopgijgpcaaDoor.PRefsRules Go.Proofs.YtnolfopgijgpcaaDoorW.PrintWords

theorem toList_bl (s : ByteArray) : s.toList = bl s := Lib.toList_data s
theorem pj_true (m : Nat) (s : ByteArray) : satchelref14_part.j0 (m + 1) s true = some false := by simp [satchelref14_part.j0]
theorem pj_false (m : Nat) (s : ByteArray) : satchelref14_part.j0 (m + 1) s false = satchelref14_part.l0 m s 0 := by simp [satchelref14_part.j0]
theorem gj_true (m : Nat) (s : ByteArray) : satchelref14_Good.j0 (m + 1) s true = some false := by simp [satchelref14_Good.j0]
theorem gj_false (m : Nat) (s : ByteArray) : satchelref14_Good.j0 (m + 1) s false = (satchelref14_Parted.f m s 47).bind fun t => satchelref14_Good.l0 m t 0 := by simp [satchelref14_Good.j0]

theorem lastOf_getD : ∀ (l : List UInt8) (x : Nat), l ≠ [] → lastOf l x = (l.getD (l.length - 1) 0).toNat
  | [], _, h => absurd rfl h
  | [b], _, _ => by simp [lastOf]
  | b :: c :: r, x, _ => by
    show lastOf (c :: r) b.toNat = _
    rw [lastOf_getD (c :: r) b.toNat (by simp)]
    simp
theorem lastOf_get (s : ByteArray) (x : Nat) (h : 0 < s.size) : lastOf (bl s) x = (s.get! (s.size - 1)).toNat := by
  rw [lastOf_getD _ _ (fun e => by have := bl_length s; rw [e] at this; simp at this; omega), bl_length, Lib.getD_get!']

theorem part_eq (s : ByteArray) (hs : s.size ≤ 255) (hno : ∀ b ∈ bl s, b.toNat ≠ 47) (k : Nat) (hk : 260 ≤ k) : satchelref14_part.f k s = some (brun (bl s) 47) := by
  obtain ⟨m, rfl⟩ : ∃ m, k = m + 1 := ⟨k - 1, by omega⟩
  unfold satchelref14_part.f
  rw [toList_bl]
  by_cases h0 : s.size = 0
  · have : bl s = [] := List.eq_nil_of_length_eq_zero (by rw [bl_length]; exact h0)
    rw [this, if_pos rfl]
    simp [satchelref14_part.j0, brun, fin]
  · have hdr := bl_drop s 0 (by omega)
    rw [List.drop_zero] at hdr
    have hne : bl s ≠ [] := by rw [hdr]; simp
    have hm : s.get! 0 ∈ bl s := by rw [hdr]; simp
    have h47 := hno _ hm
    have b0 := bt_get s 0
    rw [if_neg hne, if_pos (by omega), show bt s 0 = ((s.get! 0).toNat : Int) from b0]
    by_cases h46 : (s.get! 0).toNat = 46
    · rw [if_pos (by omega), hdr]
      simp [satchelref14_part.j0, brun, h46, step, fin]
    · rw [if_neg (by omega)]
      by_cases h45 : (s.get! 0).toNat = 45
      · rw [if_pos (by omega), hdr]
        simp [satchelref14_part.j0, brun, h45, step]
      · rw [if_neg (by omega), if_pos (by unfold wrap64; omega), if_pos (by unfold wrap64; omega), wrap_small (by omega) (by omega), show (s.size : Int) - 1 = ((s.size - 1 : Nat) : Int) from by omega, bt_get]
        have hl := lastOf_get s 47 (by omega)
        have hlm : (s.get! (s.size - 1)).toNat ≠ 47 := by
          have hd2 := bl_drop s (s.size - 1) (by omega)
          exact hno _ (List.mem_of_mem_drop (i := s.size - 1) (by rw [hd2]; simp))
        by_cases hlast : (s.get! (s.size - 1)).toNat = 46
        · have : ((((s.get! (s.size - 1)).toNat : Nat) : Int) == 46) = true := by rw [hlast]; rfl
          rw [this, pj_true, brun_steps, hl]
          simp [fin, hlast]
        · have : ((((s.get! (s.size - 1)).toNat : Nat) : Int) == 46) = false := by simp; omega
          rw [this, pj_false, show (0 : Int) = ((0 : Nat) : Int) from rfl, part_loop s hs hno s.size 0 m (by omega) (by omega) (by omega) (by omega), if_pos rfl]
          rw [brun_steps, hl]
          have hf : fin (s.get! (s.size - 1)).toNat = true := by simp [fin, hlast, hlm]
          rw [hf, Bool.and_true]
          generalize (bl s).drop (0 + 1) = r at *
          rw [hdr]
          have e46 : ((s.get! 0).toNat == 46) = false := by simp [h46]
          have e45 : ((s.get! 0).toNat == 45) = false := by simp [h45]
          simp only [e46, e45, steps, step, h47, h46, h45, if_false, Bool.or_false]

theorem good_loop (l : List ByteArray) (hl : l.length ≤ 300) (hp : ∀ p ∈ l, p.size ≤ 255 ∧ ∀ b ∈ bl p, b.toNat ≠ 47) : ∀ (d i k : Nat), i ≤ l.length → l.length - i ≤ d → d + 262 ≤ k →
    satchelref14_Good.l0 k l (i : Int) = some ((l.drop i).all fun p => brun (bl p) 47)
  | d, i, 0, _, _, hk => by omega
  | d, i, k + 1, hi, hd, hk => by
    unfold satchelref14_Good.l0
    by_cases h : i < l.length
    · have hr : rdOf ByteArray.empty l (i : Int) = l[i] := by simp [rdOf, h]
      obtain ⟨h1, h2⟩ := hp l[i] (List.getElem_mem h)
      rw [if_pos (by omega), if_pos (by omega), hr, part_eq _ h1 h2 k (by omega)]
      simp only [Option.bind_some]
      rw [List.drop_eq_getElem_cons h, List.all_cons]
      by_cases hb : brun (bl l[i]) 47 = true
      · rw [if_pos hb, hb, wrap_small (by omega) (by omega), show (i : Int) + 1 = ((i + 1 : Nat) : Int) from by omega, good_loop l hl hp (d - 1) (i + 1) k (by omega) (by omega) (by omega)]
        rfl
      · rw [if_neg hb]
        simp at hb
        rw [hb]; rfl
    · rw [if_neg (by omega)]
      rw [List.drop_eq_nil_of_le (by omega)]; rfl
termination_by d i k => k

theorem cut_sizes : ∀ (l cur : List UInt8), ∀ p ∈ cut cur l, p.length ≤ cur.length + l.length
  | [], cur, p, hp => by simp [cut] at hp; subst hp; omega
  | b :: r, cur, p, hp => by
    unfold cut at hp
    split at hp
    · rcases List.mem_cons.1 hp with rfl | hp
      · omega
      · have := cut_sizes r [] p hp; simp at this ⊢; omega
    · have := cut_sizes r (cur ++ [b]) p hp; simp at this ⊢; omega
theorem cut_length : ∀ (l cur : List UInt8), (cut cur l).length ≤ l.length + 1
  | [], cur => by simp [cut]
  | b :: r, cur => by
    unfold cut
    split
    · have := cut_length r []; simp; omega
    · have := cut_length r (cur ++ [b]); simp; omega

theorem good_eq (s : ByteArray) (k : Nat) (hk : 1000 ≤ k) : satchelref14_Good.f k s = some (goodB (bl s)) := by
  obtain ⟨m, rfl⟩ : ∃ m, k = m + 1 := ⟨k - 1, by omega⟩
  unfold satchelref14_Good.f goodB
  rw [toList_bl, bl_length]
  by_cases h1 : s.size < 1
  · rw [if_pos (by omega)]
    simp [satchelref14_Good.j0]; omega
  rw [if_neg (by omega)]
  by_cases h2 : 255 < s.size
  · rw [if_pos (by omega)]
    simp [satchelref14_Good.j0]; omega
  rw [if_neg (by omega), decide_eq_true (show 1 ≤ s.size by omega), decide_eq_true (show s.size ≤ 255 by omega)]
  by_cases h3 : bl s = [72, 69, 65, 68]
  · rw [if_pos h3, h3]
    simp [satchelref14_Good.j0]
  rw [if_neg h3]
  have h3' : (bl s == [72, 69, 65, 68]) = false := by simpa using h3
  rw [h3']
  obtain ⟨b, hb, hb1, hb2⟩ := line_eq s (by omega) s.size 0 (m + 1) (by omega) (by omega) (by omega)
  have hline : satchelref3_Line.f (m + 1) s 255 = some b := by unfold satchelref3_Line.f; rw [if_neg (by omega)]; exact hb
  rw [hline]
  simp only [Option.bind_some, Bool.true_and, Bool.not_false, Bool.and_true]
  rw [List.drop_zero] at hb1 hb2
  cases b with
  | false =>
    rw [show (!false) = true from rfl, gj_true]
    congr 1
    rw [Bool.eq_iff_iff]
    simp only [Bool.false_eq_true, Bool.and_eq_true, false_iff]
    rintro ⟨hv, hr⟩
    exact absurd (hb2 hv (fun c hc => brun_clean _ _ hr c hc)) (by simp)
  | true =>
    rw [show (!true) = false from rfl, gj_false]
    have hpar : satchelref14_Parted.f m s 47 = some ((cut [] (bl s)).map mk) := by
      unfold satchelref14_Parted.f
      have := parted_eq s (by omega) s.size 0 0 m [] (by omega) (by omega) (by omega) (by omega) (by simp)
      exact this.trans (by simp)
    rw [hpar]
    simp only [Option.bind_some]
    have hcl := cut_length (bl s) []
    rw [bl_length] at hcl
    have hg := good_loop ((cut [] (bl s)).map mk) (by simp; omega) (by
      intro p hp
      obtain ⟨q, hq, rfl⟩ := List.mem_map.1 hp
      have hqs := cut_sizes (bl s) [] q hq
      rw [bl_length] at hqs
      refine ⟨?_, ?_⟩
      · rw [size_eq]
        show (bl (mk q)).length ≤ 255
        rw [bl_mk]; simp at hqs; omega
      · rw [bl_mk]
        exact cut_noslash (bl s) [] (by simp) q hq) ((cut [] (bl s)).map mk).length 0 m (by omega) (by omega) (by simp; omega)
    rw [show (0 : Int) = ((0 : Nat) : Int) from rfl, hg, List.drop_zero, List.all_map]
    have hc := cut_good (bl s) []
    simp only [steps, Bool.true_and, lastOf] at hc
    rw [hb1 rfl, Bool.true_and, ← hc]
    congr 2

end Go.Proofs.YtnolfopgijgpcaaDoor.Nm
/- The walk of refs.Check: it answers by the automaton, sign by sign. Condition: utf8's two tables hold what their text lays. -/
namespace Go.Proofs.YtnolfopgijgpcaaDoor.Nm
set_option linter.unusedVariables false
open Go.Lib Go.RowKit Go.Proofs.YtnolfopgijgpcaaDoor.PRefsRules Go.Proofs.YtnolfopgijgpcaaDoorW.PrintWords Go.Proofs.YtnolfopgijgpcaaDoorW.PrintLast

abbrev spans : List Int := [97, 122, 65, 90, 48, 57, 95, 95, 128, 1114111]
abbrev spanCells : Array Value := #[.int .i32 97, .int .i32 122, .int .i32 65, .int .i32 90, .int .i32 48, .int .i32 57, .int .i32 95, .int .i32 95, .int .i32 128, .int .i32 1114111]

theorem between_eq (r : Nat) (hr : r ≤ 1114111) : refs_between.f 7 (r : Int) spans = some (alnum r) := by
  simp [refs_between.f, refs_between.l0, rd, wrap64, alnum]
  repeat' split
  all_goals (simp only [Option.some.injEq]; rw [Bool.eq_iff_iff]; simp; omega)

theorem between_at (r : Nat) (hr : r ≤ 1114111) (w : World) :
    Calls Tryd.prog 29 #[.int .i32 (r : Int), .slice (some ⟨w.heap.size, 0, none⟩) 10 10] (w.alloc (.cells spanCells 21)) fun e w' => e = .returned (.bool (alnum r)) ∧ Below w.heap.size w w' := by
  have hC : Kd.C (Kd.int .i32) (w.alloc (.cells spanCells 21)) (some ⟨w.heap.size, 0, none⟩) spans.length spans := by
    refine Kd.C_of_reads (enc := Value.int .i32) (d := (0 : Int)) (h1 := fun _ => rfl) ⟨rfl, by simp, fun _ => ⟨_, rfl, fun j hj => ?_⟩⟩
    rw [add_plain, World.cell?_alloc_new]
    match j, hj with
    | 0, _ => rfl
    | 1, _ => rfl
    | 2, _ => rfl
    | 3, _ => rfl
    | 4, _ => rfl
    | 5, _ => rfl
    | 6, _ => rfl
    | 7, _ => rfl
    | 8, _ => rfl
    | 9, _ => rfl
  refine (refs_between.calls 7 (r : Int) (some ⟨w.heap.size, 0, none⟩) 10 spans (alnum r) _ hC (by simp) (between_eq r hr)).mono fun e w' ⟨he, hd⟩ => ⟨he, ?_⟩
  obtain ⟨n, rfl⟩ := hd
  exact pw_below_drewN ((Below.refl _ _).alloc (Nat.le_refl _) _) n

def ans (b : Bool) : Int := if b = true then 0 else 140

set_option maxHeartbeats 1000000 in
set_option maxRecDepth 100000 in
theorem check_small (s : ByteArray) (w : World) (h : s.size < 1 ∨ 255 < s.size) (hs : s.size ≤ 9223372036854775807) :
    Calls Tryd.prog 8 #[.string s] w fun e w' => e = .returned (.int .i64 140) ∧ Below w.heap.size w w' := by
  rcases h with h | h
  · have hz : (s.size : Int) < 1 := by omega
    go_enter Tryd.func8, Tryd.ntmps8
    go_wp2
    go_ret
    exact ⟨rfl, Below.refl _ _⟩
  · have hz : ¬ (s.size : Int) < 1 := by omega
    have hz2 : 255 < (s.size : Int) := by omega
    go_enter Tryd.func8, Tryd.ntmps8
    go_wp2
    go_ret
    exact ⟨rfl, Below.refl _ _⟩

set_option maxHeartbeats 1000000 in
set_option maxRecDepth 100000 in
theorem check_bad (s : ByteArray) (w : World) (h1 : ¬ s.size < 1) (h2 : s.size ≤ 255) (hT : Hid (Lib.Utf8Tabs 0 1 w)) (hv : Hid (validD (bl s) = false ∨ bl s = [72, 69, 65, 68])) :
    Calls Tryd.prog 8 #[.string s] w fun e w' => e = .returned (.int .i64 140) ∧ Below w.heap.size w w' := by
  have cV : Calls Tryd.prog 28 #[.string s] w _ := Any.utf8_ValidString Tryd.laysValid s w (by omega) hT.out
  have HV := Lib.hid cV
  clear cV
  have hz : ¬ (s.size : Int) < 1 := by omega
  have hz2 : ¬ 255 < (s.size : Int) := by omega
  by_cases hvd : validD (bl s) = false
  · rw [show validD s.data.toList = false from hvd] at HV
    clear hvd
    go_enter Tryd.func8, Tryd.ntmps8
    go_wp2_with fail
    refine HV.out.mono ?_
    rintro e w1 ⟨rfl, hb⟩
    have HB := Lib.hid hb
    clear hb
    go_wp2_with fail
    go_ret
    exact ⟨rfl, HB.out⟩
  · have hvt : validD s.data.toList = true := by simpa using hvd
    rw [hvt] at HV
    have hh : bl s = [72, 69, 65, 68] := hv.out.resolve_left hvd
    obtain rfl : s = ⟨#[72, 69, 65, 68]⟩ := by
      rw [← mk_bl s, hh]; rfl
    clear hvd hvt hh
    go_enter Tryd.func8, Tryd.ntmps8
    go_wp2_with fail
    refine HV.out.mono ?_
    rintro e w1 ⟨rfl, hb⟩
    have HB := Lib.hid hb
    clear hb
    go_wp2_with fail
    go_ret
    exact ⟨rfl, HB.out⟩
end Go.Proofs.YtnolfopgijgpcaaDoor.Nm
/- The walk of refs.Check's loop. -/
namespace Go.Proofs.YtnolfopgijgpcaaDoor.Nm
set_option linter.unusedVariables false
open Go.Lib Go.RowKit

theorem iterPos_of {w : World} {k : Nat} {s : ByteArray} {p : Nat} (h : w.heap[k]? = some (.stringIter s p)) : w.iterPos k = p := by simp [World.iterPos, h]
/-- One step of the run, at place pos. -/
theorem rrun_at (s : ByteArray) (pos last r n : Nat) (hp : pos < s.size) (hd : Utf8.decode s pos = (r, n)) : rrun ((bl s).drop pos) last = (step last r && rrun ((bl s).drop (pos + n)) r) := by
  have hne : (bl s).drop pos ≠ [] := by rw [bl_drop s pos hp]; simp
  rw [rrun_step _ _ hne, decodeL_drop, hd, List.drop_drop]

set_option maxHeartbeats 1000000 in
set_option maxRecDepth 100000 in
theorem check_loop (s : ByteArray) (w : World) (h1 : ¬ s.size < 1) (h2 : s.size ≤ 255) (hT : Hid (Lib.Utf8Tabs 0 1 w)) (hv : Hid (validD (bl s) = true)) (hh : Hid (bl s ≠ [72, 69, 65, 68])) :
    Calls Tryd.prog 8 #[.string s] w fun e w' => e = .returned (.int .i64 (ans (rrun (bl s) 47))) ∧ Below w.heap.size w w' := by
  have cV : Calls Tryd.prog 28 #[.string s] w _ := Any.utf8_ValidString Tryd.laysValid s w (by omega) hT.out
  rw [show validD s.data.toList = true from hv.out] at cV
  have HV := Lib.hid cV
  clear cV
  have hz : ¬ (s.size : Int) < 1 := by omega
  have hz2 : ¬ 255 < (s.size : Int) := by omega
  have hne : (s.toList == [72, 69, 65, 68]) = false := by rw [toList_bl]; simpa using hh.out
  go_enter Tryd.func8, Tryd.ntmps8
  go_wp2_with fail
  refine HV.out.mono ?_
  rintro e w1 ⟨rfl, hb⟩
  have HB := Lib.hid hb
  clear hb
  go_wp2_with fail
  go_loopw [3] (fun v wr => ∃ (pos last : Nat), v = .int .i32 last ∧ last ≤ 1114111 ∧ wr.heap[w1.heap.size]? = some (.stringIter s pos) ∧ Below w1.heap.size w1 wr ∧ rrun (bl s) 47 = rrun ((bl s).drop pos) last) (fun _ wr => s.size - wr.iterPos w1.heap.size)
  case atStart => exact ⟨0, 47, rfl, by omega, World.iter_heap w1 s 0, (Below.refl _ _).alloc (Nat.le_refl _) _, rfl⟩
  case round =>
    obtain ⟨pos, last, rfl, hl, hit, hbw, hrr⟩ := hrel
    have hsz : w1.heap.size < wr.heap.size := (Array.getElem?_eq_some_iff.1 hit).1
    by_cases hp : pos < s.size
    · have hnx := fun ty => Lib.run_next_any_at (P := Tryd.prog) wr w1.heap.size s pos ty hit hp
      obtain ⟨r, n, hD⟩ : ∃ r n, Utf8.decode s pos = (r, n) := ⟨_, _, rfl⟩
      have hit2 := Lib.iterAt_heap wr w1.heap.size s pos (pos + n) hit
      have hbw2 := Lib.below_iterAt hbw (k := w1.heap.size) (by omega) s (pos + n)
      have hsz2 : w1.heap.size < (wr.iterAt w1.heap.size s (pos + n)).heap.size := by rw [Lib.iterAt_size]; omega
      have hr1 : r ≤ 1114111 := by have := decodeL_rune ((bl s).drop pos); rw [decodeL_drop, hD] at this; exact this
      have hn1 : 1 ≤ n := by have := decodeL_width ((bl s).drop pos); rw [decodeL_drop, hD] at this; exact this
      have hst := rrun_at s pos last r n hp hD
      rw [hst] at hrr
      rw [hD] at hnx
      have HRR := Lib.hid hrr
      have HIT := Lib.hid hit
      have HIT2 := Lib.hid hit2
      have HBW2 := Lib.hid hbw2
      have HBW := Lib.hid hbw
      clear hrr hit hit2 hbw2 hst hD hbw
      by_cases c47 : r = 47
      · subst c47
        by_cases l47 : last = 47
        · subst l47
          go_wp2
          go_ret
          exact ⟨by rw [HRR.out]; rfl, HB.out.trans (HBW2.out.mono HB.out.size)⟩
        · have n47 : ((last : Int) == 47) = false := by simp; omega
          by_cases l46 : last = 46
          · subst l46
            go_wp2
            go_ret
            exact ⟨by rw [HRR.out]; rfl, HB.out.trans (HBW2.out.mono HB.out.size)⟩
          · have n46 : ((last : Int) == 46) = false := by simp; omega
            go_wp2
            go_roundw
            case rel => exact ⟨pos + n, 47, rfl, by omega, HIT2.out, HBW2.out, by rw [HRR.out, show step last 47 = true by simp [step, fin, l47, l46], Bool.true_and]⟩
            case measure => rw [iterPos_of HIT.out, iterPos_of HIT2.out]; omega
      · have r47 : ((r : Int) == 47) = false := by simp; omega
        by_cases c46 : r = 46
        · subst c46
          by_cases l47 : last = 47
          · subst l47
            go_wp2
            go_ret
            exact ⟨by rw [HRR.out]; rfl, HB.out.trans (HBW2.out.mono HB.out.size)⟩
          · have n47 : ((last : Int) == 47) = false := by simp; omega
            by_cases l46 : last = 46
            · subst l46
              go_wp2
              go_ret
              exact ⟨by rw [HRR.out]; rfl, HB.out.trans (HBW2.out.mono HB.out.size)⟩
            · have n46 : ((last : Int) == 46) = false := by simp; omega
              go_wp2
              go_roundw
              case rel => exact ⟨pos + n, 46, rfl, by omega, HIT2.out, HBW2.out, by rw [HRR.out, show step last 46 = true by simp [step, fin, l47, l46], Bool.true_and]⟩
              case measure => rw [iterPos_of HIT.out, iterPos_of HIT2.out]; omega
        · have r46 : ((r : Int) == 46) = false := by simp; omega
          by_cases c45 : r = 45
          · subst c45
            by_cases l47 : last = 47
            · subst l47
              go_wp2
              go_ret
              exact ⟨by rw [HRR.out]; rfl, HB.out.trans (HBW2.out.mono HB.out.size)⟩
            · have n47 : ((last : Int) == 47) = false := by simp; omega
              go_wp2
              go_roundw
              case rel => exact ⟨pos + n, 45, rfl, by omega, HIT2.out, HBW2.out, by rw [HRR.out, show step last 45 = true by simp [step, l47], Bool.true_and]⟩
              case measure => rw [iterPos_of HIT.out, iterPos_of HIT2.out]; omega
          · have r45 : ((r : Int) == 45) = false := by simp; omega
            have hstep : step last r = alnum r := by unfold step; rw [if_neg c47, if_neg c46, if_neg c45]
            have HST := Lib.hid hstep
            clear hstep
            have HIB := Lib.hid (between_at r hr1 (wr.iterAt w1.heap.size s (pos + n)))
            cases hal : alnum r
            · have HAL := Lib.hid hal
              rw [hal] at HIB
              clear hal
              go_wp2_with fail
              refine HIB.out.mono ?_
              rintro e w2 ⟨rfl, hb2⟩
              have HB2 := Lib.hid hb2
              clear hb2
              go_wp2
              go_ret
              exact ⟨by rw [HRR.out, HST.out, HAL.out]; rfl, HB.out.trans ((HBW2.out.trans (HB2.out.mono (by omega))).mono HB.out.size)⟩
            · have HAL := Lib.hid hal
              rw [hal] at HIB
              clear hal
              go_wp2_with fail
              refine HIB.out.mono ?_
              rintro e w2 ⟨rfl, hb2⟩
              have HB2 := Lib.hid hb2
              have HIT3 := Lib.hid ((hb2.block _ hsz2).trans HIT2.out)
              clear hb2
              go_wp2
              go_roundw
              case rel => exact ⟨pos + n, r, rfl, by omega, HIT3.out, HBW2.out.trans (HB2.out.mono (by omega)), by rw [HRR.out, HST.out, HAL.out, Bool.true_and]⟩
              case measure => rw [iterPos_of HIT.out, iterPos_of HIT3.out]; omega
    · have hnx : ∀ ty, (Instr.next (.pointer (some ⟨w1.heap.size, 0, none⟩)) true ty).run Tryd.prog wr = _ := fun ty => Lib.run_next_end_at wr w1.heap.size s pos ty hit hp
      have hnil : (bl s).drop pos = [] := by rw [List.drop_eq_nil_iff, bl_length]; omega
      rw [hnil, rrun_nil] at hrr
      have HRR := Lib.hid hrr
      have HBW := Lib.hid hbw
      clear hrr hnil hit hbw
      by_cases l47 : last = 47
      · subst l47
        go_wp2
        go_ret
        exact ⟨by rw [HRR.out]; rfl, HB.out.trans (HBW.out.mono HB.out.size)⟩
      · have n47 : ((last : Int) == 47) = false := by simp; omega
        by_cases l46 : last = 46
        · subst l46
          go_wp2
          go_ret
          exact ⟨by rw [HRR.out]; rfl, HB.out.trans (HBW.out.mono HB.out.size)⟩
        · have n46 : ((last : Int) == 46) = false := by simp; omega
          go_wp2
          go_ret
          exact ⟨by rw [HRR.out]; simp [fin, l47, l46, ans], HB.out.trans (HBW.out.mono HB.out.size)⟩

/-- refs.Check: 0 for a good name, 140 for any other text. -/
theorem check_walk (s : ByteArray) (w : World) (hs : s.size ≤ 9223372036854775807) (hT : Lib.Utf8Tabs 0 1 w) :
    Calls Tryd.prog 8 #[.string s] w fun e w' => e = .returned (.int .i64 (ans (goodB (bl s)))) ∧ Below w.heap.size w w' := by
  by_cases h : s.size < 1 ∨ 255 < s.size
  · have : goodB (bl s) = false := by
      unfold goodB
      rw [bl_length]
      rcases h with h | h
      · rw [decide_eq_false (by omega)]; rfl
      · rw [decide_eq_false (show ¬ s.size ≤ 255 by omega), Bool.and_false]; rfl
    rw [this]
    exact check_small s w h hs
  · have g1 : decide (1 ≤ (bl s).length) = true := by rw [bl_length]; simp; omega
    have g2 : decide ((bl s).length ≤ 255) = true := by rw [bl_length]; simp; omega
    by_cases hv : validD (bl s) = false ∨ bl s = [72, 69, 65, 68]
    · have : goodB (bl s) = false := by
        unfold goodB
        rcases hv with hv | hv
        · rw [hv]; simp
        · rw [hv]; rfl
      rw [this]
      exact check_bad s w (by omega) (by omega) (Lib.hid hT) (Lib.hid hv)
    · have hv1 : validD (bl s) = true := by
        cases e : validD (bl s)
        · exact absurd (.inl e) hv
        · rfl
      have hv2 : bl s ≠ [72, 69, 65, 68] := fun e => hv (.inr e)
      have : goodB (bl s) = rrun (bl s) 47 := by
        unfold goodB
        rw [g1, g2, hv1, rrun_eq _ (bl s) 47 47 (Nat.le_refl _) hv1 ⟨Iff.rfl, Iff.rfl⟩]
        simp [hv2]
      rw [this]
      exact check_loop s w (by omega) (by omega) (Lib.hid hT) (Lib.hid hv1) (Lib.hid hv2)

end Go.Proofs.YtnolfopgijgpcaaDoor.Nm
/- The walk of the law RefsNames. -/
namespace Go.Proofs.YtnolfopgijgpcaaDoor.Nm
set_option linter.unusedVariables false
open Go.Lib Go.RowKit Go.Proofs.YtnolfopgijgpcaaDoorW.PrintWords

theorem num_any (n : Int) (w : World) : Calls Tryd.prog 9 #[.int .i64 n] w fun e w' => e = .returned (.int .i64 n) ∧ w = w' := by
  go_enter Tryd.func9, Tryd.ntmps9
  go_wp2
  go_ret
  exact ⟨rfl, rfl⟩

theorem tabs_lt {w : World} (h : Lib.Utf8Tabs 0 1 w) : 1 < w.heap.size := by
  have h2 := (h.2 0 (by omega)).1
  exact World.block_lt_of_cell? w ⟨1, 0, none⟩ h2
theorem tabs_below {w w1 : World} (h : Lib.Utf8Tabs 0 1 w) (hb : Below w.heap.size w w1) : Lib.Utf8Tabs 0 1 w1 := by
  have hl := tabs_lt h
  refine ⟨fun c hc => ?_, fun i hi => ⟨?_, ?_⟩⟩
  · rw [hb.cell (p := ⟨0, c, none⟩) (by simp; omega)]; exact h.1 c hc
  · rw [hb.cell (p := ⟨1, 2 * i, none⟩) (by simp; omega)]; exact (h.2 i hi).1
  · rw [hb.cell (p := ⟨1, 2 * i + 1, none⟩) (by simp; omega)]; exact (h.2 i hi).2

theorem right_walk (w : World) (hT : Lib.Utf8Tabs 0 1 w) : Calls Tryd.prog 11 #[] w fun e w' => e = .returned (.bool true) ∧ Below w.heap.size w w' := by
  have c1 := check_walk ⟨#[104, 101, 97, 100, 115, 47, 97]⟩ w (by decide) hT
  have g1 : ans (goodB (bl ⟨#[104, 101, 97, 100, 115, 47, 97]⟩)) = 0 := by decide +kernel
  rw [g1] at c1
  have C1 := Lib.hid c1
  have g2 : ans (goodB (bl ⟨#[97, 47, 47, 98]⟩)) = 140 := by decide +kernel
  have G2 := Lib.hid g2
  have HT := Lib.hid hT
  clear c1 g1 g2 hT
  go_enter Tryd.func11, Tryd.ntmps11
  go_wp2_with fail
  refine C1.out.mono ?_
  rintro e w1 ⟨rfl, hb⟩
  have HB := Lib.hid hb
  clear hb
  go_wp2_with fail
  refine (num_any _ _).mono ?_
  rintro e w' ⟨rfl, rfl⟩
  go_wp2_with fail
  refine (check_walk ⟨#[97, 47, 47, 98]⟩ w1 (by decide) (tabs_below HT.out HB.out)).mono ?_
  rw [G2.out]
  rintro e w2 ⟨rfl, hb⟩
  have HB2 := Lib.hid hb
  clear hb
  go_wp2_with fail
  refine (num_any _ _).mono ?_
  rintro e w' ⟨rfl, rfl⟩
  go_wp2_with fail
  go_ret
  exact ⟨rfl, HB.out.trans (HB2.out.mono HB.out.size)⟩
end Go.Proofs.YtnolfopgijgpcaaDoor.Nm
