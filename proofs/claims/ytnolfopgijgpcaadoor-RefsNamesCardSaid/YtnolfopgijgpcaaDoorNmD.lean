/- Plain law: the reference's Check, as it is printed, says just whether the name is good. -/
import Derived.Test.YtnolfopgijgpcaaDoorNmC
namespace Go.Proofs.YtnolfopgijgpcaaDoor.Nm
set_option linter.unusedVariables false
open Go.Lib Go.RowKit Go.Proofs.YtnolfopgijgpcaaDoor.PRefsNames Go.Proofs.YtnolfopgijgpcaaDoorW.PrintWords

theorem toList_bl (s : ByteArray) : s.toList = bl s := Lib.toList_data s
theorem pj_true (m : Nat) (s : ByteArray) : satchelref14_part.j0 (m + 1) s true = some false := by simp [satchelref14_part.j0]
theorem pj_false (m : Nat) (s : ByteArray) : satchelref14_part.j0 (m + 1) s false = satchelref14_part.l0 m s 0 := by simp [satchelref14_part.j0]
theorem gj_true (m : Nat) (s : ByteArray) : satchelref14_Good.j0 (m + 1) s true = some false := by simp [satchelref14_Good.j0]
theorem gj_false (m : Nat) (s : ByteArray) : satchelref14_Good.j0 (m + 1) s false = (satchelref14_Parted.f m s 47).bind fun t => satchelref14_Good.l0 m t 0 := by simp [satchelref14_Good.j0]

theorem lastOf_getD : ∀ (l : List UInt8) (x : Nat), l ≠ [] → lastOf l x = (l.getD (l.length - 1) 0).toNat
  | [], _, h => absurd rfl h
  | [b], _, _ => by simp [lastOf]
  | b :: c :: r, x, _ => by
    show lastOf (c :: r) b.toNat = _
    rw [lastOf_getD (c :: r) b.toNat (by simp)]
    simp
theorem lastOf_get (s : ByteArray) (x : Nat) (h : 0 < s.size) : lastOf (bl s) x = (s.get! (s.size - 1)).toNat := by
  rw [lastOf_getD _ _ (fun e => by have := bl_length s; rw [e] at this; simp at this; omega), bl_length, Lib.getD_get!']

theorem part_eq (s : ByteArray) (hs : s.size ≤ 255) (hno : ∀ b ∈ bl s, b.toNat ≠ 47) (k : Nat) (hk : 260 ≤ k) : satchelref14_part.f k s = some (brun (bl s) 47) := by
  obtain ⟨m, rfl⟩ : ∃ m, k = m + 1 := ⟨k - 1, by omega⟩
  unfold satchelref14_part.f
  rw [toList_bl]
  by_cases h0 : s.size = 0
  · have : bl s = [] := List.eq_nil_of_length_eq_zero (by rw [bl_length]; exact h0)
    rw [this, if_pos rfl]
    simp [satchelref14_part.j0, brun, fin]
  · have hdr := bl_drop s 0 (by omega)
    rw [List.drop_zero] at hdr
    have hne : bl s ≠ [] := by rw [hdr]; simp
    have hm : s.get! 0 ∈ bl s := by rw [hdr]; simp
    have h47 := hno _ hm
    have b0 := bt_get s 0
    rw [if_neg hne, if_pos (by omega), show bt s 0 = ((s.get! 0).toNat : Int) from b0]
    by_cases h46 : (s.get! 0).toNat = 46
    · rw [if_pos (by omega), hdr]
      simp [satchelref14_part.j0, brun, h46, step, fin]
    · rw [if_neg (by omega)]
      by_cases h45 : (s.get! 0).toNat = 45
      · rw [if_pos (by omega), hdr]
        simp [satchelref14_part.j0, brun, h45, step]
      · rw [if_neg (by omega), if_pos (by unfold wrap64; omega), if_pos (by unfold wrap64; omega), wrap_small (by omega) (by omega), show (s.size : Int) - 1 = ((s.size - 1 : Nat) : Int) from by omega, bt_get]
        have hl := lastOf_get s 47 (by omega)
        have hlm : (s.get! (s.size - 1)).toNat ≠ 47 := by
          have hd2 := bl_drop s (s.size - 1) (by omega)
          exact hno _ (List.mem_of_mem_drop (i := s.size - 1) (by rw [hd2]; simp))
        by_cases hlast : (s.get! (s.size - 1)).toNat = 46
        · have : ((((s.get! (s.size - 1)).toNat : Nat) : Int) == 46) = true := by rw [hlast]; rfl
          rw [this, pj_true, brun_steps, hl]
          simp [fin, hlast]
        · have : ((((s.get! (s.size - 1)).toNat : Nat) : Int) == 46) = false := by simp; omega
          rw [this, pj_false, show (0 : Int) = ((0 : Nat) : Int) from rfl, part_loop s hs hno s.size 0 m (by omega) (by omega) (by omega) (by omega), if_pos rfl]
          rw [brun_steps, hl]
          have hf : fin (s.get! (s.size - 1)).toNat = true := by simp [fin, hlast, hlm]
          rw [hf, Bool.and_true]
          generalize (bl s).drop (0 + 1) = r at *
          rw [hdr]
          have e46 : ((s.get! 0).toNat == 46) = false := by simp [h46]
          have e45 : ((s.get! 0).toNat == 45) = false := by simp [h45]
          simp only [e46, e45, steps, step, h47, h46, h45, if_false, Bool.or_false]

theorem good_loop (l : List ByteArray) (hl : l.length ≤ 300) (hp : ∀ p ∈ l, p.size ≤ 255 ∧ ∀ b ∈ bl p, b.toNat ≠ 47) : ∀ (d i k : Nat), i ≤ l.length → l.length - i ≤ d → d + 262 ≤ k →
    satchelref14_Good.l0 k l (i : Int) = some ((l.drop i).all fun p => brun (bl p) 47)
  | d, i, 0, _, _, hk => by omega
  | d, i, k + 1, hi, hd, hk => by
    unfold satchelref14_Good.l0
    by_cases h : i < l.length
    · have hr : rdOf ByteArray.empty l (i : Int) = l[i] := by simp [rdOf, h]
      obtain ⟨h1, h2⟩ := hp l[i] (List.getElem_mem h)
      rw [if_pos (by omega), if_pos (by omega), hr, part_eq _ h1 h2 k (by omega)]
      simp only [Option.bind_some]
      rw [List.drop_eq_getElem_cons h, List.all_cons]
      by_cases hb : brun (bl l[i]) 47 = true
      · rw [if_pos hb, hb, wrap_small (by omega) (by omega), show (i : Int) + 1 = ((i + 1 : Nat) : Int) from by omega, good_loop l hl hp (d - 1) (i + 1) k (by omega) (by omega) (by omega)]
        rfl
      · rw [if_neg hb]
        simp at hb
        rw [hb]; rfl
    · rw [if_neg (by omega)]
      rw [List.drop_eq_nil_of_le (by omega)]; rfl
termination_by d i k => k

theorem cut_sizes : ∀ (l cur : List UInt8), ∀ p ∈ cut cur l, p.length ≤ cur.length + l.length
  | [], cur, p, hp => by simp [cut] at hp; subst hp; omega
  | b :: r, cur, p, hp => by
    unfold cut at hp
    split at hp
    · rcases List.mem_cons.1 hp with rfl | hp
      · omega
      · have := cut_sizes r [] p hp; simp at this ⊢; omega
    · have := cut_sizes r (cur ++ [b]) p hp; simp at this ⊢; omega
theorem cut_length : ∀ (l cur : List UInt8), (cut cur l).length ≤ l.length + 1
  | [], cur => by simp [cut]
  | b :: r, cur => by
    unfold cut
    split
    · have := cut_length r []; simp; omega
    · have := cut_length r (cur ++ [b]); simp; omega

theorem good_eq (s : ByteArray) (k : Nat) (hk : 1000 ≤ k) : satchelref14_Good.f k s = some (goodB (bl s)) := by
  obtain ⟨m, rfl⟩ : ∃ m, k = m + 1 := ⟨k - 1, by omega⟩
  unfold satchelref14_Good.f goodB
  rw [toList_bl, bl_length]
  by_cases h1 : s.size < 1
  · rw [if_pos (by omega)]
    simp [satchelref14_Good.j0]; omega
  rw [if_neg (by omega)]
  by_cases h2 : 255 < s.size
  · rw [if_pos (by omega)]
    simp [satchelref14_Good.j0]; omega
  rw [if_neg (by omega), decide_eq_true (show 1 ≤ s.size by omega), decide_eq_true (show s.size ≤ 255 by omega)]
  by_cases h3 : bl s = [72, 69, 65, 68]
  · rw [if_pos h3, h3]
    simp [satchelref14_Good.j0]
  rw [if_neg h3]
  have h3' : (bl s == [72, 69, 65, 68]) = false := by simpa using h3
  rw [h3']
  obtain ⟨b, hb, hb1, hb2⟩ := line_eq s (by omega) s.size 0 (m + 1) (by omega) (by omega) (by omega)
  have hline : satchelref3_Line.f (m + 1) s 255 = some b := by unfold satchelref3_Line.f; rw [if_neg (by omega)]; exact hb
  rw [hline]
  simp only [Option.bind_some, Bool.true_and, Bool.not_false, Bool.and_true]
  rw [List.drop_zero] at hb1 hb2
  cases b with
  | false =>
    rw [show (!false) = true from rfl, gj_true]
    congr 1
    rw [Bool.eq_iff_iff]
    simp only [Bool.false_eq_true, Bool.and_eq_true, false_iff]
    rintro ⟨hv, hr⟩
    exact absurd (hb2 hv (fun c hc => brun_clean _ _ hr c hc)) (by simp)
  | true =>
    rw [show (!true) = false from rfl, gj_false]
    have hpar : satchelref14_Parted.f m s 47 = some ((cut [] (bl s)).map mk) := by
      unfold satchelref14_Parted.f
      have := parted_eq s (by omega) s.size 0 0 m [] (by omega) (by omega) (by omega) (by omega) (by simp)
      exact this.trans (by simp)
    rw [hpar]
    simp only [Option.bind_some]
    have hcl := cut_length (bl s) []
    rw [bl_length] at hcl
    have hg := good_loop ((cut [] (bl s)).map mk) (by simp; omega) (by
      intro p hp
      obtain ⟨q, hq, rfl⟩ := List.mem_map.1 hp
      have hqs := cut_sizes (bl s) [] q hq
      rw [bl_length] at hqs
      refine ⟨?_, ?_⟩
      · rw [size_eq]
        show (bl (mk q)).length ≤ 255
        rw [bl_mk]; simp at hqs; omega
      · rw [bl_mk]
        exact cut_noslash (bl s) [] (by simp) q hq) ((cut [] (bl s)).map mk).length 0 m (by omega) (by omega) (by simp; omega)
    rw [show (0 : Int) = ((0 : Nat) : Int) from rfl, hg, List.drop_zero, List.all_map]
    have hc := cut_good (bl s) []
    simp only [steps, Bool.true_and, lastOf] at hc
    rw [hb1 rfl, Bool.true_and, ← hc]
    congr 2

theorem check_eq (s : ByteArray) (k : Nat) (hk : 1000 ≤ k) : satchelref14_Check.f k s = some (if goodB (bl s) = true then 0 else 140) := by
  unfold satchelref14_Check.f
  rw [good_eq s k hk]
  simp only [Option.bind_some]
  split <;> rfl
end Go.Proofs.YtnolfopgijgpcaaDoor.Nm
