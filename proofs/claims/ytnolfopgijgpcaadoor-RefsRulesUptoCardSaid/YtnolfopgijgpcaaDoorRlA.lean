/- Plain law: words, rules, what is written is told again. No program. -/
import Derived.Test.YtnolfopgijgpcaaDoorUa
namespace Go.Proofs.YtnolfopgijgpcaaDoor.Rm
open Go.Lib Go.Proofs.YtnolfopgijgpcaaDoor.Nm
set_option linter.unusedVariables false

def isSep (b : UInt8) : Bool := b == 32 || b == 10
/-- Parted by blanks; cur: what has been read of the word. -/
def wordsL : By → By → List By
  | cur, [] => if cur = [] then [] else [cur]
  | cur, b :: r => if isSep b then (if cur = [] then wordsL [] r else cur :: wordsL [] r) else wordsL (cur ++ [b]) r
def Word (w : By) : Prop := w ≠ [] ∧ ∀ b ∈ w, isSep b = false
theorem words_all : ∀ (r cur : By), (∀ b ∈ cur, isSep b = false) → ∀ w ∈ wordsL cur r, Word w
  | [], cur, h, w, hw => by
    unfold wordsL at hw
    by_cases hc : cur = []
    · rw [if_pos hc] at hw; simp at hw
    · rw [if_neg hc] at hw; rw [List.mem_singleton.1 hw]; exact ⟨hc, h⟩
  | b :: r, cur, h, w, hw => by
    unfold wordsL at hw
    cases hb : isSep b
    · rw [hb, if_neg (by simp)] at hw
      exact words_all r _ (fun x hx => by
        rcases List.mem_append.1 hx with hx | hx
        · exact h x hx
        · rw [List.mem_singleton.1 hx]; exact hb) w hw
    · rw [hb, if_pos rfl] at hw
      by_cases hc : cur = []
      · rw [if_pos hc] at hw; exact words_all r [] (fun x hx => by simp at hx) w hw
      · rw [if_neg hc] at hw
        rcases List.mem_cons.1 hw with rfl | hw
        · exact ⟨hc, h⟩
        · exact words_all r [] (fun x hx => by simp at hx) w hw
theorem words_run : ∀ (w cur r : By), (∀ b ∈ w, isSep b = false) → wordsL cur (w ++ r) = wordsL (cur ++ w) r
  | [], cur, r, _ => by simp
  | b :: w, cur, r, h => by
    rw [List.cons_append, wordsL, h b (by simp), if_neg (by simp), words_run w _ r (fun x hx => h x (by simp [hx]))]
    simp
theorem words_text : ∀ ws : List By, (∀ w ∈ ws, Word w) → wordsL [] (ws.flatMap (fun w => w ++ [10])) = ws
  | [], _ => rfl
  | w :: ws, h => by
    have hw := h w (by simp)
    rw [List.flatMap_cons, List.append_assoc, words_run w [] _ hw.2, List.nil_append, List.singleton_append, wordsL]
    rw [show isSep 10 = true from rfl, if_pos rfl, if_neg hw.1, words_text ws (fun v hv => h v (by simp [hv]))]
theorem words_blank (r : By) : wordsL [] (32 :: r) = wordsL [] r := by
  rw [wordsL, show isSep 32 = true from rfl, if_pos rfl, if_pos rfl]
/-- The sum of the lengths of the words. -/
theorem words_len : ∀ (r cur : By), ((wordsL cur r).map List.length).sum + (wordsL cur r).length ≤ cur.length + r.length + 1
  | [], cur => by
    unfold wordsL
    by_cases hc : cur = []
    · rw [if_pos hc]; simp
    · rw [if_neg hc]; simp
  | b :: r, cur => by
    unfold wordsL
    split
    · split
      · have := words_len r []; simp at this ⊢; omega
      · have := words_len r []; simp at this ⊢; omega
    · have := words_len r (cur ++ [b]); simp at this ⊢; omega

def noColon (c : UInt8) : Bool := c != 58
/-- Cut at the first colon. -/
def cutA (s : By) : By := s.takeWhile noColon
def cutB (s : By) : By := s.drop ((cutA s).length + 1)
def hasColon (s : By) : Bool := decide ((cutA s).length < s.length)
theorem colon_split (s : By) (h : hasColon s = true) : s = cutA s ++ 58 :: cutB s := by
  have h' := of_decide_eq_true h
  unfold cutB
  have e1 : cutA s = s.take (cutA s).length := List.prefix_iff_eq_take.1 (List.takeWhile_prefix _)
  have e2 : s.drop (cutA s).length = s[(cutA s).length] :: s.drop ((cutA s).length + 1) := List.drop_eq_getElem_cons h'
  have e3 : s[(cutA s).length] = 58 := by
    have h3 : s.dropWhile noColon = s.drop (cutA s).length := by
      have := List.takeWhile_append_dropWhile (p := noColon) (l := s)
      calc s.dropWhile noColon = (s.takeWhile noColon ++ s.dropWhile noColon).drop (cutA s).length := by unfold cutA; rw [List.drop_left]
        _ = s.drop (cutA s).length := by rw [this]
    have h4 := List.head?_dropWhile_not (p := noColon) (l := s)
    rw [h3, e2] at h4
    rw [List.head?_cons] at h4
    have h5 : noColon s[(cutA s).length] = false := by simpa using h4
    unfold noColon at h5
    simpa using h5
  conv => lhs; rw [← List.take_append_drop (cutA s).length s, ← e1, e2, e3]
def twoL (s : By) (f : Bool) : R × Bool :=
  if hasColon s && !hasColon (cutB s) then (⟨cutA s, cutB s, f, false⟩, (hasStar (cutA s) == hasStar (cutB s)) && goodB (putL (cutA s) [120]) && goodB (putL (cutB s) [120])) else (⟨[], [], false, false⟩, false)
def ruleL : By → R × Bool
  | [] => (⟨[], [], false, false⟩, false)
  | c :: s => if c = 94 then (⟨s, [], false, true⟩, goodB (putL s [120])) else if c = 43 then twoL s true else twoL (c :: s) false
/-- A rule as it is written. -/
def writeL (u : R) : By := if u.not then 94 :: u.src else if u.force then 43 :: (u.src ++ 58 :: u.dst) else u.src ++ 58 :: u.dst
theorem two_write (s : By) (f : Bool) (h : (twoL s f).2 = true) : (twoL s f).1.not = false ∧ (twoL s f).1.force = f ∧ (twoL s f).1.src ++ 58 :: (twoL s f).1.dst = s := by
  unfold twoL at h ⊢
  cases hc : hasColon s && !hasColon (cutB s)
  · rw [hc] at h; cases h
  · rw [if_pos rfl]
    simp only [Bool.and_eq_true] at hc
    exact ⟨rfl, rfl, (colon_split s hc.1).symm⟩
theorem write_rule (w : By) (h : (ruleL w).2 = true) : writeL (ruleL w).1 = w := by
  cases w with
  | nil => cases h
  | cons c s =>
    have e : ruleL (c :: s) = if c = 94 then (⟨s, [], false, true⟩, goodB (putL s [120])) else if c = 43 then twoL s true else twoL (c :: s) false := rfl
    rw [e] at h ⊢
    by_cases h1 : c = 94
    · rw [if_pos h1]; subst h1; rfl
    · rw [if_neg h1] at h ⊢
      by_cases h2 : c = 43
      · rw [if_pos h2] at h ⊢
        obtain ⟨e1, e2, e3⟩ := two_write s true h
        unfold writeL
        rw [e1, e2, if_neg (by simp), if_pos rfl, e3, h2]
      · rw [if_neg h2] at h ⊢
        obtain ⟨e1, e2, e3⟩ := two_write (c :: s) false h
        unfold writeL
        rw [e1, e2, if_neg (by simp), if_neg (by simp), e3]
/-- A good name bears no colon. -/
theorem brun_colon : ∀ (l : By) (last : Nat), brun l last = true → (58 : UInt8) ∉ l
  | [], _, _ => by simp
  | b :: r, last, h => by
    unfold brun at h
    simp only [Bool.and_eq_true] at h
    intro hm
    rcases List.mem_cons.1 hm with hb | hm
    · rw [← hb] at h
      have : Nm.step last (58 : UInt8).toNat = false := rfl
      rw [this] at h
      cases h.1
    · exact brun_colon r _ h.2 hm
theorem good_colon (l : By) (h : goodB l = true) : (58 : UInt8) ∉ l := by
  unfold goodB at h
  simp only [Bool.and_eq_true] at h
  exact brun_colon l 47 h.2
theorem put_mem (s m : By) (b : UInt8) (hb : b ∈ s) (h42 : b ≠ 42) : b ∈ putL s m := by
  unfold putL
  cases hs : hasStar s
  · rw [if_neg (by simp)]; exact hb
  · rw [if_pos rfl]
    rw [star_split s hs] at hb
    simp only [List.mem_append, List.mem_singleton] at hb ⊢
    rcases hb with (hb | hb) | hb
    · exact .inl (.inl hb)
    · exact absurd hb h42
    · exact .inr hb
theorem take_colon : ∀ s : By, s.takeWhile noColon = s → (58 : UInt8) ∉ s
  | [], _ => by simp
  | b :: r, h => by
    rw [List.takeWhile_cons] at h
    cases hb : noColon b
    · rw [hb, if_neg (by simp)] at h; cases h
    · rw [hb, if_pos rfl] at h
      injection h with _ h
      intro hm
      rcases List.mem_cons.1 hm with e | hm
      · rw [← e] at hb; cases hb
      · exact take_colon r h hm
theorem mem_hasColon (s : By) : hasColon s = true ↔ (58 : UInt8) ∈ s := by
  constructor
  · intro h
    rw [colon_split s h]
    simp
  · intro hm
    unfold hasColon cutA
    by_cases he : (s.takeWhile noColon).length < s.length
    · exact decide_eq_true he
    · have hp : s.takeWhile noColon = s := (List.takeWhile_prefix _).eq_of_length_le (by omega)
      exact absurd hm (take_colon s hp)
/-- What the program asks of a word with two sides. -/
theorem two_prog (s : By) (f : Bool) : (hasColon s && goodB (putL (cutA s) [120]) && goodB (putL (cutB s) [120]) && (hasStar (cutA s) == hasStar (cutB s))) = (twoL s f).2 := by
  unfold twoL
  cases h1 : hasColon s
  · rfl
  · cases h2 : hasColon (cutB s)
    · simp only [Bool.true_and, Bool.not_false, if_true]
      cases goodB (putL (cutA s) [120]) <;> cases goodB (putL (cutB s) [120]) <;> cases (hasStar (cutA s) == hasStar (cutB s)) <;> rfl
    · have hg : goodB (putL (cutB s) [120]) = false := by
        cases hg : goodB (putL (cutB s) [120])
        · rfl
        · exact absurd (put_mem _ [120] 58 ((mem_hasColon _).1 h2) (by decide)) (good_colon _ hg)
      rw [hg]
      simp
theorem two_val (s : By) (f : Bool) (h : (twoL s f).2 = true) : (twoL s f).1 = ⟨cutA s, cutB s, f, false⟩ := by
  unfold twoL at h ⊢
  cases hc : hasColon s && !hasColon (cutB s)
  · rw [hc] at h; cases h
  · rfl
/-- What is told of words. -/
def ruleOk (ws : List By) : Bool := ws.all fun w => (ruleL w).2
def told (ws : List By) : List R × Nat := if ruleOk ws && decide (ws.length ≤ 64) then (ws.map fun w => (ruleL w).1, 0) else ([], 141)
theorem told_bad {ws : List By} {i : Nat} (hi : i < ws.length) (h : (ruleL ws[i]).2 = false) : told ws = ([], 141) := by
  unfold told
  have : ruleOk ws = false := by
    unfold ruleOk
    rw [List.all_eq_false]
    exact ⟨ws[i], List.getElem_mem hi, by rw [h]; simp⟩
  rw [this]; rfl
theorem told_long {ws : List By} (h : 64 < ws.length) : told ws = ([], 141) := by
  unfold told
  rw [decide_eq_false (by omega), Bool.and_false]; rfl
theorem told_good {ws : List By} (h : ∀ i (hi : i < ws.length), (ruleL ws[i]).2 = true) (hl : ws.length ≤ 64) : told ws = (ws.map fun w => (ruleL w).1, 0) := by
  unfold told
  have : ruleOk ws = true := by
    unfold ruleOk
    rw [List.all_eq_true]
    intro w hw
    obtain ⟨i, hi, rfl⟩ := List.getElem_of_mem hw
    exact h i hi
  rw [this, decide_eq_true hl]; rfl
theorem told_cases (ws : List By) : told ws = ([], 141) ∨ ((told ws) = (ws.map fun w => (ruleL w).1, 0) ∧ ruleOk ws = true ∧ ws.length ≤ 64) := by
  unfold told
  cases h : ruleOk ws && decide (ws.length ≤ 64)
  · exact .inl rfl
  · simp only [Bool.and_eq_true, decide_eq_true_eq] at h
    exact .inr ⟨rfl, h.1, h.2⟩
/-- The text that the law makes of rules. -/
def textOf (us : List R) : By := 32 :: us.flatMap (fun u => writeL u ++ [10])
theorem write_all : ∀ ws : List By, ruleOk ws = true → (ws.map fun w => (ruleL w).1).flatMap (fun u => writeL u ++ [10]) = ws.flatMap (fun w => w ++ [10])
  | [], _ => rfl
  | w :: ws, h => by
    unfold ruleOk at h
    rw [List.all_cons, Bool.and_eq_true] at h
    rw [List.map_cons, List.flatMap_cons, List.flatMap_cons, write_rule w h.1, write_all ws h.2]
/-- What is told, written again, is told again. -/
theorem again (s : By) : told (wordsL [] (textOf (told (wordsL [] s)).1)) = ((told (wordsL [] s)).1, 0) := by
  rcases told_cases (wordsL [] s) with h | ⟨h, h1, h2⟩
  · rw [h]; rfl
  · rw [h]
    show told (wordsL [] (32 :: _)) = _
    rw [words_blank, write_all _ h1, words_text _ (words_all s [] (fun b hb => by simp at hb)), h]
end Go.Proofs.YtnolfopgijgpcaaDoor.Rm
