/- Plain law: the reference's sign and Line, as they are printed, against the decoder. -/
import Derived.Test.YtnolfopgijgpcaaDoorPRefsNamesx4
import Derived.Test.YtnolfopgijgpcaaDoorNmA
namespace Go.Proofs.YtnolfopgijgpcaaDoor.Nm
open Go.Lib Go.RowKit Go.Proofs.YtnolfopgijgpcaaDoor.PRefsNames Go.Proofs.YtnolfopgijgpcaaDoorW.PrintWords

theorem bt_get (s : ByteArray) (i : Nat) : bt s (i : Int) = ((s.get! i).toNat : Int) := by
  unfold bt
  rw [Int.toNat_natCast]
  split
  · rename_i h
    have h' : i < s.data.size := h
    show ((s.data[i]'h').toNat : Int) = ((s.data[i]!).toNat : Int)
    rw [getElem!_pos s.data i h']
  · rename_i h
    have h' : ¬ i < s.data.size := h
    show (0 : Int) = ((s.data[i]!).toNat : Int)
    rw [getElem!_neg s.data i h']
    rfl
theorem wrap_small {x : Int} (h0 : -1000000 ≤ x) (h1 : x ≤ 1000000) : wrap64 x = x := by unfold wrap64; omega
theorem wrap_bt (s : ByteArray) (i : Int) : wrap64 (bt s i) = bt s i := by
  have := bt_range s i
  exact wrap_small (by omega) (by omega)
theorem wrap_succ (i j : Nat) (hi : i ≤ 100000) (hj : j ≤ 10) : wrap64 ((i : Int) + (j : Int)) = ((i + j : Nat) : Int) := by
  rw [wrap_small (by omega) (by omega)]; omega

theorem tail_eq (s : ByteArray) (i : Nat) (lo hi : Int) : satchelref3_tail.f s (i : Int) lo hi = some (decide (i < s.size ∧ lo ≤ bt s i ∧ bt s i ≤ hi)) := by
  unfold satchelref3_tail.f
  rw [wrap_bt]
  by_cases h : i < s.size
  · rw [if_pos (by omega), if_pos (by omega)]
    by_cases h1 : lo ≤ bt s i
    · rw [if_pos (by omega)]; simp [h, h1]
    · rw [if_neg (by omega)]; simp [h1]
  · rw [if_neg (by omega)]; simp [h]

/-- The reference's sign: the width of a right sign, or 0. -/
def signN (n b0 b1 b2 b3 : Nat) : Nat :=
  if (decodeN n b0 b1 b2 b3).1 = 65533 ∧ (decodeN n b0 b1 b2 b3).2 = 1 then 0 else (decodeN n b0 b1 b2 b3).2

set_option maxRecDepth 100000 in
set_option maxHeartbeats 4000000 in
theorem sign_eq (s : ByteArray) (i : Nat) (hi : i < s.size) (hs : s.size ≤ 1000) (m : Nat) :
    satchelref3_sign.f (m + 8) s (i : Int) = some ((signN (s.size - i) (s.get! i).toNat (s.get! (i + 1)).toNat (s.get! (i + 2)).toNat (s.get! (i + 3)).toNat : Nat) : Int) := by
  have e1 : wrap64 ((i : Int) + 1) = ((i + 1 : Nat) : Int) := wrap_succ i 1 (by omega) (by omega)
  have e2 : wrap64 ((i : Int) + 2) = ((i + 2 : Nat) : Int) := wrap_succ i 2 (by omega) (by omega)
  have e3 : wrap64 ((i : Int) + 3) = ((i + 3 : Nat) : Int) := wrap_succ i 3 (by omega) (by omega)
  have l0 : (s.get! i).toNat < 256 := (s.get! i).toNat_lt
  have l1 : (s.get! (i + 1)).toNat < 256 := (s.get! (i + 1)).toNat_lt
  have l2 : (s.get! (i + 2)).toNat < 256 := (s.get! (i + 2)).toNat_lt
  have l3 : (s.get! (i + 3)).toNat < 256 := (s.get! (i + 3)).toNat_lt
  have c1 : (i + 1 < s.size) = (1 < s.size - i) := propext ⟨fun h => by omega, fun h => by omega⟩
  have c2 : (i + 2 < s.size) = (2 < s.size - i) := propext ⟨fun h => by omega, fun h => by omega⟩
  have c3 : (i + 3 < s.size) = (3 < s.size - i) := propext ⟨fun h => by omega, fun h => by omega⟩
  have w0 : wrap64 ((s.get! i).toNat : Int) = ((s.get! i).toNat : Int) := wrap_small (by omega) (by omega)
  simp only [satchelref3_sign.f, satchelref3_sign.j0, satchelref3_sign.j1, satchelref3_sign.j2, satchelref3_sign.j3, satchelref3_sign.j4, satchelref3_sign.j5, satchelref3_sign.j6,
    e1, e2, e3, tail_eq, w0, bt_get, c1, c2, c3, Option.bind_some, decide_eq_true_eq, Bool.false_eq_true, if_false]
  have hn : 1 ≤ s.size - i := by omega
  rw [if_pos (by omega), if_pos (by omega)]
  generalize (s.get! i).toNat = b0 at *
  generalize (s.get! (i + 1)).toNat = b1 at *
  generalize (s.get! (i + 2)).toNat = b2 at *
  generalize (s.get! (i + 3)).toNat = b3 at *
  generalize s.size - i = n at *
  clear e1 e2 e3 c1 c2 c3 hi hs w0
  have key : ∀ sz lo hi, firstT b0 % 8 = sz → accLo (firstT b0 / 16) = lo → accHi (firstT b0 / 16) = hi → (sz = 2 ∨ sz = 3 ∨ sz = 4) → 128 ≤ b0 →
      signN n b0 b1 b2 b3 = (checkN n b1 b2 b3 sz lo hi).getD 0 := by
    intro sz lo hi h1 h2 h3 _ hb
    unfold signN
    rcases check_decode n b0 b1 b2 b3 hn hb l0 l1 l2 l3 with ⟨ha, hd⟩ | ⟨k, hk, ha, hd⟩
    · rw [h1, h2, h3] at ha
      rw [ha, hd]; simp
    · rw [h1, h2, h3] at ha
      rw [ha, if_neg (by omega), hd]; rfl
  by_cases a0 : b0 < 128
  · rw [if_pos (by omega)]
    have e : decodeN n b0 b1 b2 b3 = (b0, 1) := by unfold decodeN; rw [if_pos a0]
    unfold signN
    rw [e, if_neg (by simp; omega)]; rfl
  rw [if_neg (by omega)]
  by_cases a1 : b0 < 194
  · rw [if_neg (by omega), if_neg (by omega), if_neg (by omega)]
    rw [signN, decodeN_bad n b0 b1 b2 b3 (.inl ⟨by omega, a1⟩)]; simp
  rw [if_pos (by omega)]
  by_cases a2 : b0 < 224
  · rw [if_pos (by omega), key 2 128 191 (by simp [firstT, a0, a1, a2]) (by simp [firstT, accLo, a0, a1, a2]) (by simp [firstT, accHi, a0, a1, a2]) (by omega) (by omega)]
    unfold checkN
    rw [if_pos rfl]
    by_cases h : n < 2 ∨ b1 < 128 ∨ 191 < b1
    · rw [if_pos h, if_neg (by omega)]; rfl
    · rw [if_neg h, if_pos (by omega)]; rfl
  rw [if_neg (by omega), if_pos (by omega)]
  by_cases a3 : b0 < 240
  · rw [if_pos (by omega)]
    have fin3 : ∀ lo hi : Nat, signN n b0 b1 b2 b3 = (checkN n b1 b2 b3 3 lo hi).getD 0 →
        (if 1 < n ∧ (lo : Int) ≤ (b1 : Int) ∧ (b1 : Int) ≤ (hi : Int) then (if 2 < n ∧ (128 : Int) ≤ (b2 : Int) ∧ (b2 : Int) ≤ 191 then some (3 : Int) else some 0) else some 0) = some ((signN n b0 b1 b2 b3 : Nat) : Int) := by
      intro lo hi e
      rw [e, show checkN n b1 b2 b3 3 lo hi = if n < 3 ∨ b1 < lo ∨ hi < b1 ∨ b2 < 128 ∨ 191 < b2 then none else some 3 from rfl]
      by_cases h1 : 1 < n ∧ (lo : Int) ≤ (b1 : Int) ∧ (b1 : Int) ≤ (hi : Int)
      · rw [if_pos h1]
        by_cases h2 : 2 < n ∧ (128 : Int) ≤ (b2 : Int) ∧ (b2 : Int) ≤ 191
        · rw [if_pos h2, if_neg (by omega)]; rfl
        · rw [if_neg h2, if_pos (by omega)]; rfl
      · rw [if_neg h1, if_pos (by omega)]; rfl
    by_cases a4 : b0 = 224
    · subst a4
      rw [if_pos (by omega), if_neg (by omega)]
      exact fin3 160 191 (key 3 160 191 (by decide) (by decide) (by decide) (by omega) (by omega))
    · rw [if_neg (by omega)]
      by_cases a5 : b0 = 237
      · subst a5
        rw [if_pos (by omega)]
        exact fin3 128 159 (key 3 128 159 (by decide) (by decide) (by decide) (by omega) (by omega))
      · rw [if_neg (by omega)]
        refine fin3 128 191 ?_
        by_cases a6 : b0 < 237
        · exact key 3 128 191 (by simp [firstT, a0, a1, a2, a4, a6]) (by simp [firstT, accLo, a0, a1, a2, a4, a6]) (by simp [firstT, accHi, a0, a1, a2, a4, a6]) (by omega) (by omega)
        · exact key 3 128 191 (by simp [firstT, a0, a1, a2, a3, a4, a5, a6]) (by simp [firstT, accLo, a0, a1, a2, a3, a4, a5, a6]) (by simp [firstT, accHi, a0, a1, a2, a3, a4, a5, a6]) (by omega) (by omega)
  · rw [if_neg (by omega), if_pos (by omega)]
    by_cases a7 : b0 ≤ 244
    · rw [if_pos (by omega)]
      have fin4 : ∀ lo hi : Nat, signN n b0 b1 b2 b3 = (checkN n b1 b2 b3 4 lo hi).getD 0 →
          (if 1 < n ∧ (lo : Int) ≤ (b1 : Int) ∧ (b1 : Int) ≤ (hi : Int) then (if 2 < n ∧ (128 : Int) ≤ (b2 : Int) ∧ (b2 : Int) ≤ 191 then (if 3 < n ∧ (128 : Int) ≤ (b3 : Int) ∧ (b3 : Int) ≤ 191 then some (4 : Int) else some 0) else some 0) else some 0) = some ((signN n b0 b1 b2 b3 : Nat) : Int) := by
        intro lo hi e
        rw [e, show checkN n b1 b2 b3 4 lo hi = if n < 4 ∨ b1 < lo ∨ hi < b1 ∨ b2 < 128 ∨ 191 < b2 ∨ b3 < 128 ∨ 191 < b3 then none else some 4 from rfl]
        by_cases h1 : 1 < n ∧ (lo : Int) ≤ (b1 : Int) ∧ (b1 : Int) ≤ (hi : Int)
        · rw [if_pos h1]
          by_cases h2 : 2 < n ∧ (128 : Int) ≤ (b2 : Int) ∧ (b2 : Int) ≤ 191
          · rw [if_pos h2]
            by_cases h3 : 3 < n ∧ (128 : Int) ≤ (b3 : Int) ∧ (b3 : Int) ≤ 191
            · rw [if_pos h3, if_neg (by omega)]; rfl
            · rw [if_neg h3, if_pos (by omega)]; rfl
          · rw [if_neg h2, if_pos (by omega)]; rfl
        · rw [if_neg h1, if_pos (by omega)]; rfl
      by_cases a8 : b0 = 240
      · subst a8
        rw [if_pos (by omega), if_neg (by omega)]
        exact fin4 144 191 (key 4 144 191 (by decide) (by decide) (by decide) (by omega) (by omega))
      · rw [if_neg (by omega)]
        by_cases a9 : b0 = 244
        · subst a9
          rw [if_pos (by omega)]
          exact fin4 128 143 (key 4 128 143 (by decide) (by decide) (by decide) (by omega) (by omega))
        · rw [if_neg (by omega)]
          refine fin4 128 191 (key 4 128 191 ?_ ?_ ?_ (by omega) (by omega)) <;>
            simp [firstT, accLo, accHi, a0, a1, a2, a3, a8, show ¬ b0 = 224 by omega, show ¬ b0 < 237 by omega, show ¬ b0 = 237 by omega, show b0 < 244 by omega]
    · rw [if_neg (by omega)]
      unfold signN
      rw [decodeN_bad n b0 b1 b2 b3 (.inr ⟨by omega, l0⟩)]; rfl
end Go.Proofs.YtnolfopgijgpcaaDoor.Nm
