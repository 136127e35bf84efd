/- The reference's Words and Parted, and the pieces of FieldsFunc, are the plain ones. -/
import Derived.Test.YtnolfopgijgpcaaDoorRlA
import Derived.Test.YtnolfopgijgpcaaDoorPRefsRulesx6
import Derived.Test.YtnolfopgijgpcaaDoorPRefsRulesx10
import Derived.Lib.FieldsP
namespace Go.Proofs.YtnolfopgijgpcaaDoor.Rm
open Go.Lib Go.RowKit Go.Proofs.YtnolfopgijgpcaaDoor.Nm Go.Proofs.YtnolfopgijgpcaaDoorW.PrintWords Go.Proofs.YtnolfopgijgpcaaDoorW.PrintLast Go.Proofs.YtnolfopgijgpcaaDoorW.PrintMore
set_option linter.unusedVariables false

theorem nil_toList (c : ByteArray) : c.toList = ([] : List UInt8) ↔ bl c = [] := by rw [toList_bl]
theorem words_loop (s : ByteArray) (hs : s.size ≤ 1099511627776) : ∀ (d i k : Nat) (acc : List ByteArray) (cur : ByteArray), i ≤ s.size → s.size - i ≤ d → 2 * d + 4 ≤ k → acc.length ≤ i → cur.size ≤ i →
    PRefsRules.satchelref14_Words.l0 k s acc cur (i : Int) = some (acc ++ (wordsL (bl cur) ((bl s).drop i)).map mk)
  | d, i, 0, _, _, _, _, hk, _, _ => by omega
  | d, i, 1, _, _, _, _, hk, _, _ => by omega
  | d, i, k + 2, acc, cur, hi, hd, hk, ha, hc => by
    have hcs : (cur.toList = ([] : List UInt8)) = (bl cur = []) := propext (nil_toList cur)
    unfold PRefsRules.satchelref14_Words.l0
    rw [if_pos (by omega)]
    by_cases h : i < s.size
    · rw [if_neg (by omega), if_pos (by omega), if_pos (by omega), bt_get]
      have hdr := bl_drop s i h
      rw [hdr]
      have hw : wrap64 ((i : Int) + 1) = ((i + 1 : Nat) : Int) := by unfold wrap64; omega
      cases hsep : isSep (s.get! i)
      · have h32 : ¬ ((s.get! i).toNat : Int) = 32 := fun e => by
          have : s.get! i = 32 := UInt8.toNat_inj.1 (by have : (32 : UInt8).toNat = 32 := rfl; omega)
          rw [this] at hsep; cases hsep
        have h10 : (((s.get! i).toNat : Int) == 10) = false := by
          refine beq_eq_false_iff_ne.2 fun e => ?_
          have : s.get! i = 10 := UInt8.toNat_inj.1 (by have : (10 : UInt8).toNat = 10 := rfl; omega)
          rw [this] at hsep; cases hsep
        rw [if_neg h32, h10]
        unfold PRefsRules.satchelref14_Words.j1
        have hx : s.extract i (i + 1) = mk [s.get! i] := by
          rw [extract_mk, List.drop_take, hdr, show i + 1 - i = 1 from by omega]; rfl
        rw [if_neg (by simp), hw, if_pos (by omega), if_pos (by omega), if_pos (by omega), Int.toNat_natCast, Int.toNat_natCast, hx, mk_size, if_pos (by simp; omega)]
        have e : cur ++ mk [s.get! i] = mk (bl cur ++ [s.get! i]) := by conv => lhs; rw [← mk_bl cur, mk_append]
        rw [e, words_loop s hs (d - 1) (i + 1) k acc _ (by omega) (by omega) (by omega) (by omega) (by rw [mk_size, List.length_append, bl_length]; simp; omega), bl_mk, wordsL, hsep, if_neg (by simp)]
      · have hj : (if ((s.get! i).toNat : Int) = 32 then PRefsRules.satchelref14_Words.j1 (k + 1) s acc cur (i : Int) true else PRefsRules.satchelref14_Words.j1 (k + 1) s acc cur (i : Int) (((s.get! i).toNat : Int) == 10)) = PRefsRules.satchelref14_Words.j1 (k + 1) s acc cur (i : Int) true := by
          by_cases h32 : ((s.get! i).toNat : Int) = 32
          · rw [if_pos h32]
          · rw [if_neg h32]
            have h10 : s.get! i = 10 := by
              unfold isSep at hsep
              rcases Bool.or_eq_true_iff.1 hsep with e | e
              · have := eq_of_beq e; rw [this] at h32; exact absurd rfl h32
              · exact eq_of_beq e
            rw [h10]; rfl
        rw [hj]
        unfold PRefsRules.satchelref14_Words.j1
        rw [if_pos rfl, hw, wordsL, hsep, if_pos rfl]
        simp only [hcs]
        by_cases hn : bl cur = []
        · rw [if_pos hn, if_pos hn, words_loop s hs (d - 1) (i + 1) k acc _ (by omega) (by omega) (by omega) (by omega) (Nat.zero_le _)]
          try rfl
        · rw [if_neg hn, if_neg hn, if_pos (by omega), words_loop s hs (d - 1) (i + 1) k (acc ++ [cur]) _ (by omega) (by omega) (by omega) (by simp; omega) (Nat.zero_le _)]
          show some (acc ++ [cur] ++ (wordsL [] _).map mk) = _
          rw [List.map_cons, mk_bl, List.append_assoc]; try rfl
    · have he : i = s.size := by omega
      rw [if_pos (by omega)]
      unfold PRefsRules.satchelref14_Words.j1
      have hw : wrap64 ((i : Int) + 1) = ((i + 1 : Nat) : Int) := by unfold wrap64; omega
      have hnil : (bl s).drop i = [] := List.drop_eq_nil_of_le (by rw [bl_length]; omega)
      rw [if_pos rfl, hw, hnil, wordsL]
      simp only [hcs]
      obtain ⟨k', rfl⟩ : ∃ k', k = k' + 1 := ⟨k - 1, by omega⟩
      by_cases hn : bl cur = []
      · rw [if_pos hn, if_pos hn]
        unfold PRefsRules.satchelref14_Words.l0
        rw [if_neg (by omega)]; simp
      · rw [if_neg hn, if_neg hn, if_pos (by omega)]
        unfold PRefsRules.satchelref14_Words.l0
        rw [if_neg (by omega)]
        rw [List.map_singleton, mk_bl]
termination_by d i k => k
theorem words_eq (s : ByteArray) (k : Nat) (hs : s.size ≤ 1099511627776) (hk : 2 * s.size + 4 ≤ k) : PRefsRules.satchelref14_Words.f k s = some ((wordsL [] (bl s)).map mk) := by
  unfold PRefsRules.satchelref14_Words.f
  have := words_loop s hs s.size 0 k [] ⟨#[]⟩ (by omega) (by omega) (by omega) (by simp) (Nat.le_refl _)
  rw [List.drop_zero] at this
  exact this

/-! ### Parted at a colon -/
def parts : By → By → List By
  | cur, [] => [cur]
  | cur, b :: r => if b.toNat = 58 then cur :: parts [] r else parts (cur ++ [b]) r
theorem parts_loop (s : ByteArray) (hs : s.size ≤ 1099511627776) : ∀ (d a i k : Nat) (acc : List ByteArray), a ≤ i → i ≤ s.size → s.size - i ≤ d → d + 2 ≤ k → acc.length ≤ i →
    PRefsRules.satchelref14_Parted.l0 k s 58 acc (a : Int) (i : Int) = some (acc ++ (parts (((bl s).take i).drop a) ((bl s).drop i)).map mk)
  | d, a, i, 0, acc, _, _, _, hk, _ => by omega
  | d, a, i, k + 1, acc, ha, hi, hd, hk, hacc => by
    have hw : wrap64 ((i : Int) + 1) = ((i + 1 : Nat) : Int) := by unfold wrap64; omega
    unfold PRefsRules.satchelref14_Parted.l0
    rw [if_pos (by omega)]
    by_cases h : i = s.size
    · rw [if_pos (by omega), if_pos (by omega), if_pos (by omega), if_pos (by omega), Int.toNat_natCast, Int.toNat_natCast, hw]
      obtain ⟨m, rfl⟩ : ∃ m, k = m + 1 := ⟨k - 1, by omega⟩
      unfold PRefsRules.satchelref14_Parted.l0
      rw [if_neg (by omega)]
      have hn : (bl s).drop i = [] := by rw [List.drop_eq_nil_iff, bl_length]; omega
      rw [hn, extract_mk]
      simp [parts]
    · rw [if_neg (by omega), if_pos (by omega), if_pos (by omega), bt_get]
      have hdr := bl_drop s i (by omega)
      by_cases hb : (s.get! i).toNat = 58
      · rw [if_pos (by omega), if_pos (by omega), if_pos (by omega), if_pos (by omega), Int.toNat_natCast, Int.toNat_natCast, hw]
        rw [parts_loop s hs (d - 1) (i + 1) (i + 1) k _ (by omega) (by omega) (by omega) (by omega) (by simp; omega)]
        rw [hdr]
        simp only [parts, hb, if_true]
        have hz : ((bl s).take (i + 1)).drop (i + 1) = [] := by rw [List.drop_eq_nil_iff, List.length_take]; omega
        rw [hz, extract_mk]
        simp
      · rw [if_neg (by omega), hw, parts_loop s hs (d - 1) a (i + 1) k acc (by omega) (by omega) (by omega) (by omega) (by omega)]
        rw [hdr]
        simp only [parts, hb, if_false]
        have ht : (bl s).take (i + 1) = (bl s).take i ++ [s.get! i] := by
          have h1 : i < (bl s).length := by rw [bl_length]; omega
          rw [List.take_succ_eq_append_getElem h1]
          congr 2
          rw [List.drop_eq_getElem_cons h1] at hdr
          injection hdr
        rw [ht, List.drop_append_of_le_length (by rw [List.length_take, bl_length]; omega)]
termination_by d a i k => k
theorem parts_eq (s : ByteArray) (k : Nat) (hs : s.size ≤ 1099511627776) (hk : s.size + 2 ≤ k) : PRefsRules.satchelref14_Parted.f k s 58 = some ((parts [] (bl s)).map mk) := by
  have := parts_loop s hs s.size 0 0 k [] (by omega) (by omega) (by omega) (by omega) (by simp)
  unfold PRefsRules.satchelref14_Parted.f
  simpa using this
theorem parts_cons (cur : By) (b : UInt8) (r : By) : parts cur (b :: r) = if b.toNat = 58 then cur :: parts [] r else parts (cur ++ [b]) r := rfl
theorem parts_cut : ∀ (s cur : By), parts cur s = if hasColon s then (cur ++ cutA s) :: parts [] (cutB s) else [cur ++ s]
  | [], cur => by simp [parts, hasColon, cutA]
  | b :: r, cur => by
    have ih := parts_cut r (cur ++ [b])
    rw [parts_cons]
    by_cases hb : b = 58
    · subst hb
      rw [if_pos (by rfl)]
      have e1 : cutA (58 :: r) = [] := by unfold cutA; rw [List.takeWhile_cons, show noColon 58 = false from rfl, if_neg (by simp)]
      have e2 : hasColon (58 :: r) = true := by unfold hasColon; rw [e1]; simp
      have e3 : cutB (58 :: r) = r := by unfold cutB; rw [e1]; rfl
      rw [e2, e1, e3, if_pos rfl, List.append_nil]
    · have h1 : ¬ b.toNat = 58 := fun e => hb (UInt8.toNat_inj.1 e)
      have h2 : noColon b = true := by unfold noColon; simpa using hb
      rw [if_neg h1, ih]
      have e1 : cutA (b :: r) = b :: cutA r := by unfold cutA; rw [List.takeWhile_cons, h2, if_pos rfl]
      have e2 : hasColon (b :: r) = hasColon r := by unfold hasColon; rw [e1]; simp
      have e3 : cutB (b :: r) = cutB r := by unfold cutB; rw [e1]; rfl
      rw [e2, e1, e3, List.append_assoc, List.append_assoc]
      rfl
theorem parts_ne (s cur : By) : 0 < (parts cur s).length := by rw [parts_cut]; split <;> simp
/-- Just two parts. -/
theorem parts_two (s : By) : ((parts [] s).length = 2 ↔ (hasColon s && !hasColon (cutB s)) = true) ∧ ((hasColon s && !hasColon (cutB s)) = true → parts [] s = [cutA s, cutB s]) := by
  rw [parts_cut]
  cases h1 : hasColon s
  · simp
  · rw [if_pos rfl, parts_cut (cutB s)]
    cases h2 : hasColon (cutB s)
    · simp
    · have := parts_ne (cutB (cutB s)) []
      simp
      intro e
      rw [e] at this; simp at this

/-! ### the pieces of FieldsFunc -/
def sepR (r : Nat) : Bool := r == 32 || r == 10
theorem decodeN_sep (n b0 b1 b2 b3 : Nat) : ((decodeN n b0 b1 b2 b3).1 = 32 ∨ (decodeN n b0 b1 b2 b3).1 = 10 → (decodeN n b0 b1 b2 b3).2 = 1 ∧ b0 = (decodeN n b0 b1 b2 b3).1) ∧
    (¬ ((decodeN n b0 b1 b2 b3).1 = 32 ∨ (decodeN n b0 b1 b2 b3).1 = 10) → (b0 ≠ 32 ∧ b0 ≠ 10) ∧ (2 ≤ (decodeN n b0 b1 b2 b3).2 → b1 ≠ 32 ∧ b1 ≠ 10) ∧ (3 ≤ (decodeN n b0 b1 b2 b3).2 → b2 ≠ 32 ∧ b2 ≠ 10) ∧ (4 ≤ (decodeN n b0 b1 b2 b3).2 → b3 ≠ 32 ∧ b3 ≠ 10) ∧ (decodeN n b0 b1 b2 b3).2 ≤ 4) := by
  obtain ⟨d, hd⟩ : ∃ d, decodeN n b0 b1 b2 b3 = d := ⟨_, rfl⟩
  rw [hd]
  obtain ⟨R, K⟩ := d
  show (R = 32 ∨ R = 10 → K = 1 ∧ b0 = R) ∧ (¬ (R = 32 ∨ R = 10) → (b0 ≠ 32 ∧ b0 ≠ 10) ∧ (2 ≤ K → b1 ≠ 32 ∧ b1 ≠ 10) ∧ (3 ≤ K → b2 ≠ 32 ∧ b2 ≠ 10) ∧ (4 ≤ K → b3 ≠ 32 ∧ b3 ≠ 10) ∧ K ≤ 4)
  unfold decodeN at hd
  repeat' split at hd
  all_goals (simp only [Prod.mk.injEq] at hd; omega)
theorem sepR_iff (r : Nat) : sepR r = true ↔ r = 32 ∨ r = 10 := by simp [sepR]
theorem isSep_iff (b : UInt8) : isSep b = true ↔ b.toNat = 32 ∨ b.toNat = 10 := by
  unfold isSep
  rw [Bool.or_eq_true_iff, beq_iff_eq, beq_iff_eq, ← UInt8.toNat_inj, ← UInt8.toNat_inj]
  exact Iff.rfl
theorem decode_sep (s : ByteArray) (pos : Nat) (h : pos < s.size) : (sepR (Utf8.decode s pos).1 = true → (Utf8.decode s pos).2 = 1 ∧ isSep (s.get! pos) = true) ∧
    (sepR (Utf8.decode s pos).1 = false → ∀ j, j < (Utf8.decode s pos).2 → isSep (s.get! (pos + j)) = false) := by
  have hN := decodeN_sep (s.size - pos) (s.get! pos).toNat (s.get! (pos + 1)).toNat (s.get! (pos + 2)).toNat (s.get! (pos + 3)).toNat
  rw [← decode_at] at hN
  constructor
  · intro hs
    have h1 := hN.1 ((sepR_iff _).1 hs)
    exact ⟨h1.1, (isSep_iff _).2 (by rw [h1.2]; exact (sepR_iff _).1 hs)⟩
  · intro hs j hj
    have h2 := hN.2 (fun e => by rw [(sepR_iff _).2 e] at hs; cases hs)
    cases hq : isSep (s.get! (pos + j))
    · rfl
    · have hq' := (isSep_iff _).1 hq
      have hj4 : j < 4 := by omega
      match j, hj4 with
      | 0, _ => exact absurd hq' (by have := h2.1; rw [Nat.add_zero]; omega)
      | 1, _ => exact absurd hq' (by have := h2.2.1 (by omega); omega)
      | 2, _ => exact absurd hq' (by have := h2.2.2.1 (by omega); omega)
      | 3, _ => exact absurd hq' (by have := h2.2.2.2.1 (by omega); omega)
theorem take_drop_get (s : ByteArray) (pos K : Nat) (h : pos + K ≤ s.size) : ∀ b ∈ (s.data.toList.drop pos).take K, ∃ j, j < K ∧ b = s.get! (pos + j) := by
  intro b hb
  obtain ⟨j, hj, rfl⟩ := List.getElem_of_mem hb
  have hl : ((s.data.toList.drop pos).take K).length = K := by rw [List.length_take, List.length_drop, ← size_eq]; omega
  refine ⟨j, by omega, ?_⟩
  rw [List.getElem_take, List.getElem_drop]
  exact bl_get s (pos + j) (by omega)
theorem pieces_run (s : ByteArray) : ∀ (f pos : Nat) (st : Option Nat) (acc : List (Nat × Nat)), s.size ≤ pos + f → pos ≤ s.size → (∀ a, st = some a → a < pos) →
    acc.map (fun p => pieceU s.data.toList p.1 p.2) ++ wordsL (openPiece s.data.toList st pos) (s.data.toList.drop pos) = (closeSpans s (spansFromP sepR s f pos st acc)).map (fun p => pieceU s.data.toList p.1 p.2) := by
  have hend : ∀ (st : Option Nat) (acc : List (Nat × Nat)), (∀ a, st = some a → a < s.size) → acc.map (fun p => pieceU s.data.toList p.1 p.2) ++ wordsL (openPiece s.data.toList st s.size) [] = (closeSpans s (acc, st)).map (fun p => pieceU s.data.toList p.1 p.2) := fun st acc hst => by
    cases st with
    | none => simp [closeSpans, openPiece, wordsL]
    | some a =>
      have := pieceU_ne s.data.toList a s.size (hst a rfl) (by rw [← size_eq]; exact Nat.le_refl _)
      simp [closeSpans, openPiece, wordsL, this]
  have hd : s.data.toList.drop s.size = [] := List.drop_eq_nil_of_le (by rw [← size_eq]; exact Nat.le_refl _)
  intro f
  induction f with
  | zero =>
    intro pos st acc h hp hst
    obtain rfl : pos = s.size := by omega
    rw [hd, hend st acc hst]
    rfl
  | succ f ih =>
    intro pos st acc h hp hst
    by_cases hlt : pos < s.size
    · have hw := width_pos s pos
      have hwn : pos + (Utf8.decode s pos).2 ≤ s.size := by
        have := decodeN_le_n' (s.size - pos) (s.get! pos).toNat (s.get! (pos + 1)).toNat (s.get! (pos + 2)).toNat (s.get! (pos + 3)).toNat (by omega)
        rw [← decode_at] at this
        omega
      have hdec := decode_sep s pos hlt
      have hsplit : s.data.toList.drop pos = (s.data.toList.drop pos).take (Utf8.decode s pos).2 ++ s.data.toList.drop (pos + (Utf8.decode s pos).2) := by
        rw [← List.drop_drop, List.take_append_drop]
      have hdr : s.data.toList.drop pos = s.get! pos :: s.data.toList.drop (pos + 1) := bl_drop s pos hlt
      simp only [spansFromP, if_pos hlt]
      cases hsp : sepR (Utf8.decode s pos).1 with
      | true =>
        obtain ⟨h1, h2⟩ := hdec.1 hsp
        simp only [if_true, h1]
        rw [h1] at hwn
        rw [hdr, wordsL, h2, if_pos rfl]
        cases st with
        | none =>
          have := ih (pos + 1) none acc (by omega) hwn (fun a h => by cases h)
          simpa [openPiece] using this
        | some a =>
          have hpn := pieceU_ne s.data.toList a pos (hst a rfl) (by rw [← size_eq]; omega)
          have := ih (pos + 1) none (acc ++ [(a, pos)]) (by omega) hwn (fun a h => by cases h)
          simpa [openPiece, hpn] using this
      | false =>
        have hns : ∀ b ∈ (s.data.toList.drop pos).take (Utf8.decode s pos).2, isSep b = false := fun b hb => by
          obtain ⟨j, hj, rfl⟩ := take_drop_get s pos _ hwn b hb
          exact hdec.2 hsp j hj
        simp only [Bool.false_eq_true, if_false]
        rw [hsplit, words_run _ _ _ hns]
        cases st with
        | none =>
          have := ih (pos + (Utf8.decode s pos).2) (some pos) acc (by omega) hwn (fun a h => by cases h; omega)
          have e : ([] : List UInt8) ++ (s.data.toList.drop pos).take (Utf8.decode s pos).2 = pieceU s.data.toList pos (pos + (Utf8.decode s pos).2) := by
            unfold pieceU
            rw [List.nil_append, Nat.add_sub_cancel_left]
          simp only [openPiece] at this ⊢
          rw [e]
          exact this
        | some a =>
          have := ih (pos + (Utf8.decode s pos).2) (some a) acc (by omega) hwn (fun b h => by cases h; have := hst a rfl; omega)
          simp only [openPiece] at this ⊢
          rw [pieceU_grow _ _ _ _ (Nat.le_of_lt (hst a rfl))]
          exact this
    · obtain rfl : pos = s.size := by omega
      rw [hd, spansFromP_end sepR s _ _ _ _ hlt, hend st acc hst]
/-- strings.FieldsFunc at a blank or a line's end: the words. -/
theorem fields_eq (s : ByteArray) : goFieldsP sepR s = (wordsL [] (bl s)).map mk := by
  have h := pieces_run s s.size 0 none [] (by omega) (by omega) (fun a h => by cases h)
  rw [List.drop_zero] at h
  have h' : wordsL [] (bl s) = (spansOfP sepR s).map (fun p => pieceU s.data.toList p.1 p.2) := h
  rw [h', goFieldsP, List.map_map]
  refine List.map_congr_left fun p _ => ?_
  show s.extract p.1 p.2 = mk (pieceU s.data.toList p.1 p.2)
  rw [extract_mk, List.drop_take]
  rfl
end Go.Proofs.YtnolfopgijgpcaaDoor.Rm
